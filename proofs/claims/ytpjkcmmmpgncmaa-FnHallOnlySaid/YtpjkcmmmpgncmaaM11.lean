import Derived.Lib.SmallJoins
import Derived.Test.YtpjkcmmmpgncmaaM14
import Derived.Test.YtpjkcmmmpgncmaaM06
import Derived.Test.YtpjkcmmmpgncmaaM13
import Derived.Test.YtpjkcmmmpgncmaaM12
import Derived.BigQuiet
import Derived.Deep.RegionLaw
import Derived.Deep.Cut
import Derived.Deep.DeepCutAuto
/- A row of writes in memory of one's own: parts of it, more behind it. -/
namespace Go.Proofs.Ytpjkcmmmpgncmaa
open Go.RowKit
theorem encWri_one (l : List Wri) : ∀ u ∈ l.flatMap encWri, u.oneCell' = true := by
  intro u hu
  obtain ⟨x, _, hx⟩ := List.mem_flatMap.1 hu
  simp [encWri] at hx
  rcases hx with rfl | rfl | rfl <;> rfl
def OwnW (w : World) (B : Nat) (v : Value) (l : List Wri) : Prop := w.ownsRow B 46 3 v l.length (l.flatMap encWri)
theorem OwnW.sl {w : World} {B : Nat} {v : Value} {l : List Wri} (h : OwnW w B v l) : ∃ A c, v = .slice A l.length c ∧ l.length ≤ c ∧ c ≤ maxLen ∧ Sl encWri 3 w A l := Sl.of_own encWri_len h
theorem OwnW.reads {w : World} {B c n : Nat} {A : Option Addr} {l : List Wri} (h : OwnW w B (.slice A n c) l) : Sl encWri 3 w A l := by
  obtain ⟨a1, a2, a3, _, _, a4⟩ := h.sl
  injection a3 with b1 b2 b3
  subst b1; exact a4
theorem ownW_of {w : World} {B : Nat} {v : Value} {l : List Wri} (h : w.ownsRow B 46 3 v (0 + l.length) ([] ++ l.flatMap encWri)) : OwnW w B v l := by unfold OwnW; simpa using h
theorem slw_one {w : World} {g : Nat} {x : Wri} (h : Blk w g 46 #[.string x.1, .int .i64 x.2.1, .bool x.2.2]) : Sl encWri 3 w (some ⟨g, 0, none⟩) [x] := by
  intro _
  refine ⟨g, 0, rfl, h.lt, fun i j y hy hj => ?_⟩
  obtain ⟨rfl, rfl⟩ : i = 0 ∧ y = x := by
    cases i with
    | zero => simp at hy; exact ⟨rfl, hy.symm⟩
    | succ i => simp at hy
  simp only [Nat.zero_mul, Nat.zero_add]
  rw [h.cell]
  match j, hj with
  | 0, _ => rfl
  | 1, _ => rfl
  | 2, _ => rfl
theorem OwnW.below {w w' : World} {B : Nat} {v : Value} {l : List Wri} (h : OwnW w B v l) (hb : Below w.heap.size w w') : OwnW w' B v l := own_kept h hb
theorem OwnW.leB {w : World} {B B2 : Nat} {v : Value} {l : List Wri} (h : OwnW w B v l) (hb : B2 ≤ B) : OwnW w B2 v l := Go.Joins.ownsRow_le h hb
end Go.Proofs.Ytpjkcmmmpgncmaa
/- The reference's l2Writes: what is drawn to be done. -/
namespace Go.Proofs.Ytpjkcmmmpgncmaa
open Go.RowKit
/-- what stands while writes are drawn -/
def WS (w0 w : World) (A : Option Addr) (bs : List UInt8) (c g : Nat) (A2 : Option Addr) (rows : List Row) (g5 : Nat) (l : List Wri) (c5 q : Nat) (W : World) : Prop :=
  OwnW W w.heap.size (.slice (some ⟨g5, 0, none⟩) l.length c5) l ∧ Rd w0 W A bs c g q ∧ w.grownBy W (some g) ∧ Sl encRow 2 W A2 rows ∧ FitsW l
theorem WS.below {w0 w : World} {A : Option Addr} {bs : List UInt8} {c g : Nat} {A2 : Option Addr} {rows : List Row} {g5 : Nat} {l : List Wri} {c5 q : Nat} {W W' : World} (h : WS w0 w A bs c g A2 rows g5 l c5 q W) (hb : Below W.heap.size W W') : WS w0 w A bs c g A2 rows g5 l c5 q W' := by
  obtain ⟨h1, h2, h3, h4, h5⟩ := h
  exact ⟨h1.below hb, h2.below hb, gr_trans h3 (gr_below hb), h4.below hb, h5⟩
theorem WS.draw {w0 w : World} {A : Option Addr} {bs : List UInt8} {c g : Nat} {A2 : Option Addr} {rows : List Row} {g5 : Nat} {l : List Wri} {c5 q q' : Nat} {W W' : World} (h : WS w0 w A bs c g A2 rows g5 l c5 q W) (hR : Rd w0 W' A bs c g q') (hg : W.grownBy W' (some g)) (hgl : g < w.heap.size) (hne : ∀ b o, A2 = some ⟨b, o, none⟩ → b ≠ g) : WS w0 w A bs c g A2 rows g5 l c5 q' W' := by
  obtain ⟨h1, h2, h3, h4, h5⟩ := h
  exact ⟨own_gr h1 hg hgl, hR, gr_trans h3 hg, h4.gr hg (fun b o e h => hne b o e (by injection h)), h5⟩
theorem WS.far {w0 w : World} {A : Option Addr} {bs : List UInt8} {c g : Nat} {A2 : Option Addr} {rows : List Row} {g5 : Nat} {l : List Wri} {c5 q : Nat} {W : World} (h : WS w0 w A bs c g A2 rows g5 l c5 q W) {p : Addr} (hp : g5 ≠ p.block) (hp1 : w.heap.size ≤ p.block) (hp2 : ∀ b o, A2 = some ⟨b, o, none⟩ → b ≠ p.block) (hgl : g < w.heap.size) (u : Value) : WS w0 w A bs c g A2 rows g5 l c5 q (W.setCell p u) := by
  obtain ⟨h1, h2, h3, h4, h5⟩ := h
  have hw0 := h2.2.2.1
  have hg : W.grownBy (W.setCell p u) (some p.block) := ⟨rfl, rfl, rfl, by rw [World.size_setCell]; exact Nat.le_refl _, fun k _ hne => heap_setCell_other W p k u (fun e => hne (by rw [e]))⟩
  refine ⟨World.ownsRow.kept h1 hg (.inr (by simp [Value.ownBlock]; omega)), h2.farS (by omega) (by omega) u, gr_far h3 hp1 u, h4.gr hg (fun b o e h => hp2 b o e (by injection h)), h5⟩
end Go.Proofs.Ytpjkcmmmpgncmaa
