/- What a write is, as data; rows of writes, and rows of such rows. -/
import Derived.Test.YtpjkcmmmpgncmaaLib
import Derived.Test.YtpjkcmmmpgncmaaLetD
namespace Go.Proofs.Ytpjkcmmmpgncmaa
open Go.RowKit
abbrev Wri : Type := ByteArray × Int × Bool
def encWri (x : Wri) : List Value := [.string x.1, .int .i64 x.2.1, .bool x.2.2]
theorem encWri_len (x : Wri) : (encWri x).length = 3 := rfl
def FitsW (l : List Wri) : Prop := l.length ≤ maxLen ∧ ∀ x ∈ l, x.1.size ≤ maxLen
def wsz (l : List Wri) : Nat := (l.map fun x => x.1.size).sum
theorem wsz_take (l : List Wri) (k : Nat) (h : k < l.length) : wsz (l.take (k+1)) = wsz (l.take k) + l[k].1.size := by
  unfold wsz; rw [List.take_succ_eq_append_getElem h, List.map_append, List.sum_append]; simp
theorem wsz_le (l : List Wri) (k : Nat) : wsz (l.take k) ≤ wsz l := by
  have e : wsz l = wsz (l.take k) + wsz (l.drop k) := by
    unfold wsz; rw [← List.sum_append, ← List.map_append, List.take_append_drop]
  omega
/-- a row of a row: where it lies, its room, what it holds -/
abbrev Wrow : Type := Option Addr × Nat × List Wri
def encWrow (r : Wrow) : List Value := [.slice r.1 r.2.2.length r.2.1]
theorem encWrow_len (r : Wrow) : (encWrow r).length = 1 := rfl
def cont (rs : List Wrow) : List (List Wri) := rs.map (fun r => r.2.2)
theorem cont_len (rs : List Wrow) : (cont rs).length = rs.length := by simp [cont]
theorem cont_take (rs : List Wrow) (k : Nat) : cont (rs.take k) = (cont rs).take k := by simp [cont, List.map_take]
theorem cont_get (rs : List Wrow) (k : Nat) (h : k < rs.length) : (cont rs)[k]'(by rw [cont_len]; exact h) = rs[k].2.2 := by simp [cont]
/-- the rows rs lie at A in w -/
def Sl2 (w : World) (A : Option Addr) (rs : List Wrow) : Prop := Sl encWrow 1 w A rs ∧ ∀ r ∈ rs, Sl encWri 3 w r.1 r.2.2
def FitsR (rs : List Wrow) : Prop := rs.length ≤ maxLen ∧ ∀ r ∈ rs, FitsW r.2.2
theorem Sl2.below {w w' : World} {A : Option Addr} {rs : List Wrow} (h : Sl2 w A rs) (hb : Below w.heap.size w w') : Sl2 w' A rs := ⟨h.1.below hb, fun r hr => (h.2 r hr).below hb⟩
theorem Sl2.nil (w : World) (A : Option Addr) : Sl2 w A [] := ⟨Sl.nil _ _ _ _, fun r hr => absurd hr (by simp)⟩
theorem Sl2.at_ {w : World} {A : Option Addr} {rs : List Wrow} (h : Sl2 w A rs) {i : Nat} (hi : i < rs.length) :
    ∃ b o, A = some ⟨b, o, none⟩ ∧ b < w.heap.size ∧ w.cell? ⟨b, o + i, none⟩ = some (.slice rs[i].1 rs[i].2.2.length rs[i].2.1) ∧ Sl encWri 3 w rs[i].1 rs[i].2.2 := by
  obtain ⟨b, o, e, hb, hc⟩ := h.1.at1 (f := fun r : Wrow => .slice r.1 r.2.2.length r.2.1) hi
  exact ⟨b, o, e, hb, hc, h.2 _ (List.getElem_mem _)⟩
/-- the sizes of a row of rows, all told -/
def rsz (l : List (List Wri)) : Nat := (l.map fun x => x.length + wsz x).sum
theorem rsz_take (l : List (List Wri)) (k : Nat) (h : k < l.length) : rsz (l.take (k+1)) = rsz (l.take k) + (l[k].length + wsz l[k]) := by
  unfold rsz; rw [List.take_succ_eq_append_getElem h, List.map_append, List.sum_append]; simp
theorem rsz_le (l : List (List Wri)) (k : Nat) : rsz (l.take k) ≤ rsz l := by
  have e : rsz l = rsz (l.take k) + rsz (l.drop k) := by
    unfold rsz; rw [← List.sum_append, ← List.map_append, List.take_append_drop]
  omega
/-- the three cells of a block are stored: what is read afterwards, as the walk spells it -/
theorem Blk.three {w : World} {g : Nat} {t : TypeId} {a b c : Value} (h : Blk w g t #[a, b, c]) (u v x : Value) :
    Blk (((w.setCell ⟨g, 0, none⟩ u).setCell ⟨g, 1, none⟩ v).setCell ⟨g, 2, none⟩ x) g t #[u, v, x] := ((h.set_ 0 u).set_ 1 v).set_ 2 x
end Go.Proofs.Ytpjkcmmmpgncmaa
