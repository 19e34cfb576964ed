/- Arguments that are halls. -/
import Derived.Test.YteanjfjlmpgnnaaTkS
import Derived.Test.YteanjfjlmpgnnaaOpenV
namespace Go.Proofs.Yteanjfjlmpgnnaa
open Go.RowKit Go.ChangeShapes Go.WideShapes Go.ChangeAt Go.Deep
set_option maxRecDepth 100000 in
theorem open_ask_at {H : Type} {enc : TypeId × Value → H} {w : World} {base2 : Nat} {spare : Nat → Bool} {held : Bool} {fuel : Nat} {cs : List Value} {x : DataW H × List MemPlace}
    (hf : DataW.trod enc Try.prog w base2 spare held fuel 209 cs = some x) : ∃ k a b m, cs = [.int .i64 k, .string a, .string b, .int .i64 m] ∧ a.size ≤ maxLen ∧ b.size ≤ maxLen := by
  obtain ⟨xs, n, _, _, hl, hlen, hfs⟩ := DataW.trod_struct Try.underlying209 hf
  have hc : cs.length = 4 := hl.trans (by kernel_rfl)
  obtain ⟨c0, c1, c2, c3, rfl⟩ : ∃ c0 c1 c2 c3, cs = [c0, c1, c2, c3] := by
    match cs, hc with
    | [c0, c1, c2, c3], _ => exact ⟨c0, c1, c2, c3, rfl⟩
  have hI : Try.prog.cellsOf 3 = 1 := by kernel_rfl
  have hS : Try.prog.cellsOf 9 = 1 := by kernel_rfl
  have hxs : xs.length = 4 := hlen.trans rfl
  obtain ⟨y0, y1, y2, y3, rfl⟩ : ∃ y0 y1 y2 y3, xs = [y0, y1, y2, y3] := by
    match xs, hxs with
    | [y0, y1, y2, y3], _ => exact ⟨y0, y1, y2, y3, rfl⟩
  have h0 := hfs 0 _ rfl
  have h1 := hfs 1 _ rfl
  have h2 := hfs 2 _ rfl
  have h3 := hfs 3 _ rfl
  simp [hI, hS] at h0 h1 h2 h3
  obtain ⟨n0, e0, _⟩ := DataW.trod_int Try.underlying3 h0
  obtain ⟨s1, e1, _, hs1⟩ := DataW.trod_string Try.underlying9 h1
  obtain ⟨s2, e2, _, hs2⟩ := DataW.trod_string Try.underlying9 h2
  obtain ⟨n3, e3, _⟩ := DataW.trod_int Try.underlying3 h3
  simp at e0 e1 e2 e3
  subst e0 e1 e2 e3
  exact ⟨n0, s1, s2, n3, rfl, hs1, hs2⟩
set_option maxRecDepth 100000 in
theorem open_nm_at {H : Type} {enc : TypeId × Value → H} {w : World} {base2 : Nat} {spare : Nat → Bool} {held : Bool} {fuel : Nat} {cs : List Value} {x : DataW H × List MemPlace}
    (hf : DataW.trod enc Try.prog w base2 spare held fuel 211 cs = some x) : ∃ y : Nm, cs = encNm y ∧ y.1.size ≤ maxLen ∧ y.2.2.1.size ≤ maxLen ∧ y.2.2.2.1.size ≤ maxLen := by
  obtain ⟨xs, n, _, _, hl, hlen, hfs⟩ := DataW.trod_struct Try.underlying211 hf
  have hc : cs.length = 5 := hl.trans (by kernel_rfl)
  obtain ⟨c0, c1, c2, c3, c4, rfl⟩ : ∃ c0 c1 c2 c3 c4, cs = [c0, c1, c2, c3, c4] := by
    match cs, hc with
    | [c0, c1, c2, c3, c4], _ => exact ⟨c0, c1, c2, c3, c4, rfl⟩
  have hA : Try.prog.cellsOf 209 = 4 := by kernel_rfl
  have hS : Try.prog.cellsOf 9 = 1 := by kernel_rfl
  have hxs : xs.length = 2 := hlen.trans rfl
  obtain ⟨y0, y1, rfl⟩ : ∃ y0 y1, xs = [y0, y1] := by
    match xs, hxs with
    | [y0, y1], _ => exact ⟨y0, y1, rfl⟩
  have h0 := hfs 0 _ rfl
  have h1 := hfs 1 _ rfl
  simp [hA, hS] at h0 h1
  obtain ⟨s0, e0, _, hs0⟩ := DataW.trod_string Try.underlying9 h0
  obtain ⟨k, a, b, m, e1, ha, hb⟩ := open_ask_at h1
  simp at e0 e1
  obtain ⟨rfl, rfl, rfl, rfl⟩ := e1
  subst e0
  exact ⟨(s0, k, a, b, m), rfl, hs0, ha, hb⟩
theorem open_names_at {H : Type} {enc : TypeId × Value → H} {w : World} {base2 : Nat} {spare : Nat → Bool} {held : Bool} {fuel : Nat} {cs : List Value} {x : DataW H × List MemPlace}
    (hf : DataW.trod enc Try.prog w base2 spare held fuel 130 cs = some x) : ∃ A l c, cs = [.slice A (l : List Nm).length c] ∧ FitsN l ∧ Sl encNm 5 w A l := by
  have hC : Try.prog.cellsOf 211 = 5 := by kernel_rfl
  rcases open_slice Try.underlying130 hf with ⟨hcs, hx⟩ | ⟨a, len, cap, m, n, D, Pl, hcs, hb, hl, hm, hmm, hx, hi⟩
  · exact ⟨none, [], 0, hcs, ⟨by simp, by simp⟩, Sl.nil _ _ _ _⟩
  · have hlm : len ≤ m := by rw [hmm]; split <;> omega
    obtain ⟨rs, hll, hg, hS⟩ := Sl.of_cells (enc := encNm) (k := 5) (n := len) (w := w) (a := a) (Good := fun x : Nm => x.1.size ≤ maxLen ∧ x.2.2.1.size ≤ maxLen ∧ x.2.2.2.1.size ≤ maxLen) (by omega) encNm_len (fun i hil => by
      obtain ⟨cs', hc, ht'⟩ := hi i (by omega)
      rw [hC] at hc
      obtain ⟨y, hcs, h1, h2, h3⟩ := open_nm_at ht'
      obtain ⟨_, hcl, hat⟩ := World.cells?_some hc
      refine ⟨y, ⟨h1, h2, h3⟩, fun j hj => ?_⟩
      have hj2 : j < cs'.length := by rw [hcs, encNm_len]; exact hj
      have := hat j hj
      rw [Go.Deep.add_add] at this
      rw [this, ← hcs])
    subst hll
    exact ⟨some a, rs, cap, hcs, ⟨by omega, hg⟩, hS⟩
set_option maxRecDepth 100000 in
theorem open_work_at {H : Type} {enc : TypeId × Value → H} {w : World} {base2 : Nat} {spare : Nat → Bool} {held : Bool} {fuel : Nat} {cs : List Value} {x : DataW H × List MemPlace}
    (hf : DataW.trod enc Try.prog w base2 spare held fuel 127 cs = some x) : ∃ n A l c, cs = [.int .i64 n, .slice A (l : List Wri).length c] ∧ FitsW l ∧ Sl encWri 3 w A l := by
  obtain ⟨xs, n, _, _, hl, hlen, hfs⟩ := DataW.trod_struct Try.underlying127 hf
  have hc : cs.length = 2 := hl.trans (by kernel_rfl)
  obtain ⟨c0, c1, rfl⟩ : ∃ c0 c1, cs = [c0, c1] := by
    match cs, hc with
    | [c0, c1], _ => exact ⟨c0, c1, rfl⟩
  have hI : Try.prog.cellsOf 3 = 1 := by kernel_rfl
  have hS : Try.prog.cellsOf 125 = 1 := by kernel_rfl
  have hxs : xs.length = 2 := hlen.trans rfl
  obtain ⟨y0, y1, rfl⟩ : ∃ y0 y1, xs = [y0, y1] := by
    match xs, hxs with
    | [y0, y1], _ => exact ⟨y0, y1, rfl⟩
  have h0 := hfs 0 _ rfl
  have h1 := hfs 1 _ rfl
  simp [hI, hS] at h0 h1
  obtain ⟨n0, e0, _⟩ := DataW.trod_int Try.underlying3 h0
  obtain ⟨A, l, c, e1, hF, hS⟩ := open_writes_at h1
  simp at e0 e1
  subst e0 e1
  exact ⟨n0, A, l, c, rfl, hF, hS⟩
set_option maxRecDepth 100000 in
theorem open_seat_at {H : Type} {enc : TypeId × Value → H} {w : World} {base2 : Nat} {spare : Nat → Bool} {held : Bool} {fuel : Nat} {cs : List Value} {x : DataW H × List MemPlace}
    (hf : DataW.trod enc Try.prog w base2 spare held fuel 129 cs = some x) : ∃ o b n A l c, cs = [.bool o, .bool b, .int .i64 n, .slice A (l : List Wri).length c] ∧ FitsW l ∧ Sl encWri 3 w A l := by
  obtain ⟨xs, n, _, _, hl, hlen, hfs⟩ := DataW.trod_struct Try.underlying129 hf
  have hc : cs.length = 4 := hl.trans (by kernel_rfl)
  obtain ⟨c0, c1, c2, c3, rfl⟩ : ∃ c0 c1 c2 c3, cs = [c0, c1, c2, c3] := by
    match cs, hc with
    | [c0, c1, c2, c3], _ => exact ⟨c0, c1, c2, c3, rfl⟩
  have hB : Try.prog.cellsOf 4 = 1 := by kernel_rfl
  have hW : Try.prog.cellsOf 127 = 2 := by kernel_rfl
  have hxs : xs.length = 3 := hlen.trans rfl
  obtain ⟨y0, y1, y2, rfl⟩ : ∃ y0 y1 y2, xs = [y0, y1, y2] := by
    match xs, hxs with
    | [y0, y1, y2], _ => exact ⟨y0, y1, y2, rfl⟩
  have h0 := hfs 0 _ rfl
  have h1 := hfs 1 _ rfl
  have h2 := hfs 2 _ rfl
  simp [hB, hW] at h0 h1 h2
  obtain ⟨o, e0, _⟩ := DataW.trod_bool Try.underlying4 h0
  obtain ⟨b, e1, _⟩ := DataW.trod_bool Try.underlying4 h1
  obtain ⟨n, A, l, c, e2, hF, hS⟩ := open_work_at h2
  simp at e0 e1 e2
  obtain ⟨rfl, rfl⟩ := e2
  subst e0 e1
  exact ⟨o, b, n, A, l, c, rfl, hF, hS⟩
set_option maxRecDepth 100000 in
theorem open_talk_at {H : Type} {enc : TypeId × Value → H} {w : World} {base2 : Nat} {spare : Nat → Bool} {held : Bool} {fuel : Nat} {cs : List Value} {x : DataW H × List MemPlace}
    (hf : DataW.trod enc Try.prog w base2 spare held fuel 132 cs = some x) : ∃ t : Tk, cs = encTk t ∧ FitsT t ∧ Sl encWri 3 w t.ws.1 t.ws.2.2 ∧ Sl encNm 5 w t.ns.1 t.ns.2.2 := by
  obtain ⟨xs, n, _, _, hl, hlen, hfs⟩ := DataW.trod_struct Try.underlying132 hf
  have hc : cs.length = 8 := hl.trans (by kernel_rfl)
  obtain ⟨c0, c1, c2, c3, c4, c5, c6, c7, rfl⟩ : ∃ c0 c1 c2 c3 c4 c5 c6 c7, cs = [c0, c1, c2, c3, c4, c5, c6, c7] := by
    match cs, hc with
    | [c0, c1, c2, c3, c4, c5, c6, c7], _ => exact ⟨c0, c1, c2, c3, c4, c5, c6, c7, rfl⟩
  have hE : Try.prog.cellsOf 129 = 4 := by kernel_rfl
  have hN : Try.prog.cellsOf 130 = 1 := by kernel_rfl
  have hB : Try.prog.cellsOf 4 = 1 := by kernel_rfl
  have hS : Try.prog.cellsOf 9 = 1 := by kernel_rfl
  have hxs : xs.length = 5 := hlen.trans rfl
  obtain ⟨y0, y1, y2, y3, y4, rfl⟩ : ∃ y0 y1 y2 y3 y4, xs = [y0, y1, y2, y3, y4] := by
    match xs, hxs with
    | [y0, y1, y2, y3, y4], _ => exact ⟨y0, y1, y2, y3, y4, rfl⟩
  have h0 := hfs 0 _ rfl
  have h1 := hfs 1 _ rfl
  have h2 := hfs 2 _ rfl
  have h3 := hfs 3 _ rfl
  have h4 := hfs 4 _ rfl
  simp [hE, hN, hB, hS] at h0 h1 h2 h3 h4
  obtain ⟨o, b, n, A, l, c, e0, hF, hS1⟩ := open_seat_at h0
  obtain ⟨A2, l2, c2_, e1, hF2, hS2⟩ := open_names_at h1
  obtain ⟨s, e2, _⟩ := DataW.trod_bool Try.underlying4 h2
  obtain ⟨g, e3, _⟩ := DataW.trod_bool Try.underlying4 h3
  obtain ⟨i, e4, _, hi⟩ := DataW.trod_string Try.underlying9 h4
  simp at e0 e1 e2 e3 e4
  obtain ⟨rfl, rfl, rfl, rfl⟩ := e0
  subst e1 e2 e3 e4
  exact ⟨⟨o, b, n, (A, c, l), (A2, c2_, l2), s, g, i⟩, rfl, ⟨hF, hF2, hi⟩, hS1, hS2⟩
theorem open_talks_at {H : Type} {enc : TypeId × Value → H} {w : World} {base2 : Nat} {spare : Nat → Bool} {held : Bool} {fuel : Nat} {cs : List Value} {x : DataW H × List MemPlace}
    (hf : DataW.trod enc Try.prog w base2 spare held fuel 25 cs = some x) : ∃ A ts c, cs = [.slice A (ts : List Tk).length c] ∧ ts.length ≤ maxLen ∧ (∀ t ∈ ts, FitsT t) ∧ SlT w A ts := by
  have hC : Try.prog.cellsOf 132 = 8 := by kernel_rfl
  rcases open_slice Try.underlying25 hf with ⟨hcs, hx⟩ | ⟨a, len, cap, m, n, D, Pl, hcs, hb, hl, hm, hmm, hx, hi⟩
  · exact ⟨none, [], 0, hcs, by simp, by simp, Sl.nil _ _ _ _, by simp⟩
  · have hlm : len ≤ m := by rw [hmm]; split <;> omega
    obtain ⟨rs, hll, hg, hS⟩ := Sl.of_cells (enc := encTk) (k := 8) (n := len) (w := w) (a := a) (Good := fun t : Tk => FitsT t ∧ Sl encWri 3 w t.ws.1 t.ws.2.2 ∧ Sl encNm 5 w t.ns.1 t.ns.2.2) (by omega) encTk_len (fun i hil => by
      obtain ⟨cs', hc, ht'⟩ := hi i (by omega)
      rw [hC] at hc
      obtain ⟨y, hcs, h1⟩ := open_talk_at ht'
      obtain ⟨_, hcl, hat⟩ := World.cells?_some hc
      refine ⟨y, h1, fun j hj => ?_⟩
      have hj2 : j < cs'.length := by rw [hcs, encTk_len]; exact hj
      have := hat j hj
      rw [Go.Deep.add_add] at this
      rw [this, ← hcs])
    subst hll
    exact ⟨some a, rs, cap, hcs, by omega, fun t ht => (hg t ht).1, hS, fun t ht => (hg t ht).2⟩
set_option maxRecDepth 100000 in
theorem open_versC_at {H : Type} {enc : TypeId × Value → H} {w : World} {base2 : Nat} {spare : Nat → Bool} {held : Bool} {fuel : Nat} {cs : List Value} {x : DataW H × List MemPlace}
    (hf : DataW.trod enc Try.prog w base2 spare held fuel 24 cs = some x) : ∃ n A l c, cs = [.int .i64 n, .slice A (l : List Ver).length c] ∧ FitsV l ∧ Sl encVer 4 w A l := by
  obtain ⟨xs, n, _, _, hl, hlen, hfs⟩ := DataW.trod_struct Try.underlying24 hf
  have hc : cs.length = 2 := hl.trans (by kernel_rfl)
  obtain ⟨c0, c1, rfl⟩ : ∃ c0 c1, cs = [c0, c1] := by
    match cs, hc with
    | [c0, c1], _ => exact ⟨c0, c1, rfl⟩
  have hI : Try.prog.cellsOf 3 = 1 := by kernel_rfl
  have hS : Try.prog.cellsOf 22 = 1 := by kernel_rfl
  have hxs : xs.length = 2 := hlen.trans rfl
  obtain ⟨y0, y1, rfl⟩ : ∃ y0 y1, xs = [y0, y1] := by
    match xs, hxs with
    | [y0, y1], _ => exact ⟨y0, y1, rfl⟩
  have h0 := hfs 0 _ rfl
  have h1 := hfs 1 _ rfl
  simp [hI, hS] at h0 h1
  obtain ⟨n0, e0, _⟩ := DataW.trod_int Try.underlying3 h0
  obtain ⟨A, l, c, e1, hF, hS⟩ := open_versL_at h1
  simp at e0 e1
  subst e0 e1
  exact ⟨n0, A, l, c, rfl, hF, hS⟩
set_option maxRecDepth 100000 in
theorem open_hall_at {H : Type} {enc : TypeId × Value → H} {w : World} {base2 : Nat} {spare : Nat → Bool} {held : Bool} {fuel : Nat} {cs : List Value} {x : DataW H × List MemPlace}
    (hf : DataW.trod enc Try.prog w base2 spare held fuel 27 cs = some x) : ∃ n A l c B ts d, cs = [.int .i64 n, .slice A (l : List Ver).length c, .slice B (ts : List Tk).length d] ∧ FitsV l ∧ Sl encVer 4 w A l ∧ ts.length ≤ maxLen ∧ (∀ t ∈ ts, FitsT t) ∧ SlT w B ts := by
  obtain ⟨xs, n, _, _, hl, hlen, hfs⟩ := DataW.trod_struct Try.underlying27 hf
  have hc : cs.length = 3 := hl.trans (by kernel_rfl)
  obtain ⟨c0, c1, c2, rfl⟩ : ∃ c0 c1 c2, cs = [c0, c1, c2] := by
    match cs, hc with
    | [c0, c1, c2], _ => exact ⟨c0, c1, c2, rfl⟩
  have hV : Try.prog.cellsOf 24 = 2 := by kernel_rfl
  have hT : Try.prog.cellsOf 25 = 1 := by kernel_rfl
  have hxs : xs.length = 2 := hlen.trans rfl
  obtain ⟨y0, y1, rfl⟩ : ∃ y0 y1, xs = [y0, y1] := by
    match xs, hxs with
    | [y0, y1], _ => exact ⟨y0, y1, rfl⟩
  have h0 := hfs 0 _ rfl
  have h1 := hfs 1 _ rfl
  simp [hV, hT] at h0 h1
  obtain ⟨n0, A, l, c, e0, hF, hS⟩ := open_versC_at h0
  obtain ⟨B, ts, d, e1, hn, hg, hS2⟩ := open_talks_at h1
  simp at e0 e1
  obtain ⟨rfl, rfl⟩ := e0
  subst e1
  exact ⟨n0, A, l, c, B, ts, d, rfl, hF, hS, hn, hg, hS2⟩
set_option maxRecDepth 100000 in
theorem open_hall {H : Type} {enc : TypeId × Value → H} {w : World} {base base2 : Nat} {spare : Nat → Bool} {held : Bool} {v : Value} {d : DataW H} {p : List MemPlace}
    (hval : Value.okWide Try.prog w .any base 27 v) (h : DataW.Trod enc Try.prog w base2 spare held 27 v d p) :
    ∃ n A l c B ts d, v = .agg #[.int .i64 n, .slice A (l : List Ver).length c, .slice B (ts : List Tk).length d] ∧ FitsV l ∧ Sl encVer 4 w A l ∧ ts.length ≤ maxLen ∧ (∀ t ∈ ts, FitsT t) ∧ SlT w B ts := by
  obtain ⟨cs, rfl, hsz⟩ := okWide_struct Try.underlying27 hval
  obtain ⟨fuel, hf⟩ := h
  obtain ⟨n, A, l, c, B, ts, d, e, h1⟩ := open_hall_at hf
  obtain ⟨l'⟩ := cs
  simp only [Value.cells] at e
  subst e
  exact ⟨n, A, l, c, B, ts, d, rfl, h1⟩
end Go.Proofs.Yteanjfjlmpgnnaa
