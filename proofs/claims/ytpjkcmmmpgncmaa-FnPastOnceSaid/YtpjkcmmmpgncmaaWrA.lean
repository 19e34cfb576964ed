/- A row of writes in memory of one's own: parts of it, more behind it. -/
import Derived.Test.YtpjkcmmmpgncmaaDrC
import Derived.Test.YtpjkcmmmpgncmaaWriSz
import Derived.Test.YtpjkcmmmpgncmaaAppB
import Derived.Test.YtpjkcmmmpgncmaaSWrt
import Derived.Lib.SmallJoins
namespace Go.Proofs.Ytpjkcmmmpgncmaa
open Go.RowKit
theorem encWri_one (l : List Wri) : ∀ u ∈ l.flatMap encWri, u.oneCell' = true := by
  intro u hu
  obtain ⟨x, _, hx⟩ := List.mem_flatMap.1 hu
  simp [encWri] at hx
  rcases hx with rfl | rfl | rfl <;> rfl
def OwnW (w : World) (B : Nat) (v : Value) (l : List Wri) : Prop := w.ownsRow B 46 3 v l.length (l.flatMap encWri)
theorem OwnW.sl {w : World} {B : Nat} {v : Value} {l : List Wri} (h : OwnW w B v l) : ∃ A c, v = .slice A l.length c ∧ l.length ≤ c ∧ c ≤ maxLen ∧ Sl encWri 3 w A l := Sl.of_own encWri_len h
theorem OwnW.reads {w : World} {B c n : Nat} {A : Option Addr} {l : List Wri} (h : OwnW w B (.slice A n c) l) : Sl encWri 3 w A l := by
  obtain ⟨a1, a2, a3, _, _, a4⟩ := h.sl
  injection a3 with b1 b2 b3
  subst b1; exact a4
theorem ownW_of {w : World} {B : Nat} {v : Value} {l : List Wri} (h : w.ownsRow B 46 3 v (0 + l.length) ([] ++ l.flatMap encWri)) : OwnW w B v l := by unfold OwnW; simpa using h
theorem ownW_app {w : World} {B : Nat} {v : Value} {l m : List Wri} (h : w.ownsRow B 46 3 v (l.length + m.length) (l.flatMap encWri ++ m.flatMap encWri)) : OwnW w B v (l ++ m) := by
  unfold OwnW; rw [List.length_append, List.flatMap_append]; exact h
theorem slw_one {w : World} {g : Nat} {x : Wri} (h : Blk w g 46 #[.string x.1, .int .i64 x.2.1, .bool x.2.2]) : Sl encWri 3 w (some ⟨g, 0, none⟩) [x] := by
  intro _
  refine ⟨g, 0, rfl, h.lt, fun i j y hy hj => ?_⟩
  obtain ⟨rfl, rfl⟩ : i = 0 ∧ y = x := by
    cases i with
    | zero => simp at hy; exact ⟨rfl, hy.symm⟩
    | succ i => simp at hy
  simp only [Nat.zero_mul, Nat.zero_add]
  rw [h.cell]
  match j, hj with
  | 0, _ => rfl
  | 1, _ => rfl
  | 2, _ => rfl
theorem Sl.drop3 {w : World} {b o : Nat} {l : List Wri} (h : Sl encWri 3 w (some ⟨b, o, none⟩) l) (k : Nat) : Sl encWri 3 w (some ⟨b, o + k * 3, none⟩) (l.drop k) := by
  intro hl
  rw [List.length_drop] at hl
  obtain ⟨b', o', he, hb, hc⟩ := h (by omega)
  simp at he
  obtain ⟨rfl, rfl⟩ := he
  refine ⟨b, o + k * 3, rfl, hb, fun i j x hx hj => ?_⟩
  rw [List.getElem?_drop] at hx
  rw [show o + k * 3 + i * 3 + j = o + (k + i) * 3 + j by omega]
  exact hc (k + i) j x hx hj
theorem Sl.nilW {w : World} {A : Option Addr} {l : List Wri} (h : l.length = 0) : Sl encWri 3 w A l := fun h2 => by omega
/-- an empty row and a row of one, made in either order -/
theorem own_empty {w : World} : OwnW (w.alloc (.cells #[] 46)) w.heap.size (.slice (some ⟨w.heap.size, 0, none⟩) 0 0) [] :=
  own_of_blk (Blk.new w 46 #[]) (Nat.le_refl _) (Nat.zero_le _) rfl rfl
theorem OwnW.below {w w' : World} {B : Nat} {v : Value} {l : List Wri} (h : OwnW w B v l) (hb : Below w.heap.size w w') : OwnW w' B v l := own_kept h hb
theorem OwnW.below' {w w' : World} {B : Nat} {B2 : Nat} {v : Value} {l : List Wri} (h : OwnW w B v l) (hb : Below B2 w w') (hB : w.heap.size ≤ B2) : OwnW w' B v l := own_kept h (hb.mono hB)
theorem OwnW.leB {w : World} {B B2 : Nat} {v : Value} {l : List Wri} (h : OwnW w B v l) (hb : B2 ≤ B) : OwnW w B2 v l := Go.Joins.ownsRow_le h hb
theorem ownW_some {w : World} {B : Nat} {v : Value} {l : List Wri} (h : OwnW w B v l) (hl : 0 < l.length) : ∃ g c, v = .slice (some ⟨g, 0, none⟩) l.length c := by
  rcases h.2 with ⟨rfl, h2⟩ | ⟨g, cap, cur, rfl, h2⟩
  · omega
  · exact ⟨g, cap, rfl⟩
theorem fitsW_ins {l : List Wri} {x : Wri} {k : Nat} (hf : FitsW l) (hx : x.1.size ≤ maxLen) (hl : l.length ≤ 1000) : FitsW (l.take k ++ [x] ++ l.drop k) := by
  refine ⟨by simp [maxLen]; omega, fun y hy => ?_⟩
  simp only [List.mem_append, List.mem_singleton] at hy
  rcases hy with (hy | rfl) | hy
  · exact hf.2 y (List.mem_of_mem_take hy)
  · exact hx
  · exact hf.2 y (List.mem_of_mem_drop hy)
theorem len_ins {l : List Wri} {x : Wri} {k : Nat} (hk : k ≤ l.length) : (l.take k ++ [x] ++ l.drop k).length = l.length + 1 := by simp; omega
end Go.Proofs.Ytpjkcmmmpgncmaa
