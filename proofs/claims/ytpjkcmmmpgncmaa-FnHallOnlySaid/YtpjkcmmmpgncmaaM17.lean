import Derived.Lib.Bytealg
import Derived.Lib.Strings
import Derived.Lib.Slices
import Derived.Lib.Walk
import Derived.Test.YtpjkcmmmpgncmaaM09
import Derived.Test.YtpjkcmmmpgncmaaM12
import Derived.Test.YtpjkcmmmpgncmaaM20
import Derived.Test.YtpjkcmmmpgncmaaM18
import Derived.Test.YtpjkcmmmpgncmaaRows
import Derived.Test.YtpjkcmmmpgncmaaM21
import Derived.Test.YtpjkcmmmpgncmaaM05
import Derived.Test.YtpjkcmmmpgncmaaM06
import Derived.Test.YtpjkcmmmpgncmaaM01
/- The program's RowsGet: rows in order, a binary search with strings.Compare. The program's RowsGet: the binary search. -/
namespace Go.Proofs.Ytpjkcmmmpgncmaa
open Go.RowKit
def rowB (x : Row) : Bool := keyB x.1 && numB x.2
def ascRP (l : List Row) (k : Nat) : Prop := ∀ (i : Nat) (x y : Row), i + 1 < k → l[i]? = some x → l[i + 1]? = some y → ltB x.1 y.1 = true
open Classical in
noncomputable def ascR (l : List Row) : Bool := decide (ascRP l l.length)
theorem ascR_yes {l : List Row} (h : ascRP l l.length) : ascR l = true := by unfold ascR; simpa using h
open Classical in
noncomputable def rowsB (l : List Row) : Bool := decide (l.length ≤ 10 ∧ (∀ x ∈ l, rowB x = true) ∧ ascR l = true)
end Go.Proofs.Ytpjkcmmmpgncmaa
namespace Go.Proofs.Ytpjkcmmmpgncmaa
open Go.RowKit
theorem rows_asc {l : List Row} (h : ascR l = true) : ∀ (j i : Nat) (x y : Row), i < j → l[i]? = some x → l[j]? = some y → kLt x.1 y.1 := by
  have h2 : ascRP l l.length := by unfold ascR at h; simpa using h
  intro j
  induction j with
  | zero => intro i x y hij; omega
  | succ j ih =>
    intro i x y hij hx hy
    have hjl : j + 1 < l.length := (List.getElem?_eq_some_iff.1 hy).1
    have hz := List.getElem?_eq_getElem (show j < l.length by omega)
    have h3 : kLt l[j].1 y.1 := h2 j _ y hjl hz hy
    by_cases e : i = j
    · subst e; rw [hz] at hx; injection hx with hx; subst hx; exact h3
    · exact kLt_trans (ih i x _ (by omega) hx hz) h3
open Classical in
/-- the number under a key in rows in order -/
noncomputable def getR (l : List Row) (key : ByteArray) : Int × Bool := if rowsB l = true then (match l.find? (fun x => decide (x.1 = key)) with | some x => (x.2, true) | none => (0, false)) else (0, false)
theorem getR_bad {l : List Row} {key : ByteArray} (h : rowsB l = false) : getR l key = (0, false) := by unfold getR; rw [if_neg (by rw [h]; simp)]
theorem rowsB_asc {l : List Row} (h : rowsB l = true) : ascR l = true := by
  unfold rowsB at h; rw [decide_eq_true_eq] at h; exact h.2.2
theorem getR_yes {l : List Row} {key : ByteArray} {k : Nat} {x : Row} (h : rowsB l = true) (hx : l[k]? = some x) (he : x.1 = key) : getR l key = (x.2, true) := by
  have hasc := rows_asc (rowsB_asc h)
  unfold getR
  rw [if_pos h]
  cases hf : l.find? (fun x => decide (x.1 = key)) with
  | none =>
    have := List.find?_eq_none.1 hf x (List.mem_of_getElem? hx)
    simp [he] at this
  | some y =>
    have h1 := List.find?_some hf
    simp only [decide_eq_true_eq] at h1
    obtain ⟨j, hj⟩ := List.getElem?_of_mem (List.mem_of_find?_eq_some hf)
    have : j = k := by
      rcases Nat.lt_trichotomy j k with e | e | e
      · exact absurd (show kLt key key by have := hasc k j y x e hj hx; rw [h1, he] at this; exact this) (kLt_irrefl _)
      · exact e
      · exact absurd (show kLt key key by have := hasc j k x y e hx hj; rw [h1, he] at this; exact this) (kLt_irrefl _)
    subst this
    rw [hx] at hj; injection hj with hj; subst hj; rfl
end Go.Proofs.Ytpjkcmmmpgncmaa
/- Plain words: what is done turns the rows from now on alone. Plain words: what stands under a key is the last write of the key. Plain words: the time at which something was done to a key last. Plain words: what was done at a time. -/
namespace Go.Proofs.Ytpjkcmmmpgncmaa
open Go.RowKit
theorem OwnR.reads {w : World} {B c n : Nat} {A : Option Addr} {l : List Row} (h : OwnR w B (.slice A n c) l) : Sl encRow 2 w A l := by
  obtain ⟨a1, a2, a3, _, _, a4⟩ := h.sl
  injection a3 with b1 b2 b3
  subst b1; exact a4
theorem OwnR.below {w w' : World} {B : Nat} {v : Value} {l : List Row} (h : OwnR w B v l) (hb : Below w.heap.size w w') : OwnR w' B v l := own_kept h hb
end Go.Proofs.Ytpjkcmmmpgncmaa
namespace Go.Proofs.Ytpjkcmmmpgncmaa
open Go.RowKit
theorem ascR_of {l : List Row} (h : l.Pairwise (fun a b => kLt a.1 b.1)) : ascR l = true := by
  apply ascR_yes
  intro i x y hi hx hy
  rw [List.pairwise_iff_getElem] at h
  obtain ⟨h1, rfl⟩ := List.getElem?_eq_some_iff.1 hx
  obtain ⟨h2, rfl⟩ := List.getElem?_eq_some_iff.1 hy
  exact h i (i + 1) h1 h2 (by omega)
end Go.Proofs.Ytpjkcmmmpgncmaa
namespace Go.Proofs.Ytpjkcmmmpgncmaa
open Go.RowKit
end Go.Proofs.Ytpjkcmmmpgncmaa
namespace Go.Proofs.Ytpjkcmmmpgncmaa
open Go.RowKit
end Go.Proofs.Ytpjkcmmmpgncmaa
