import Derived.Test.YtpjkcmmmpgncmaaM06
import Derived.Test.YtpjkcmmmpgncmaaM04
/- A write alone and rows of writes: whether they are right; the program's tests. -/
namespace Go.Proofs.Ytpjkcmmmpgncmaa
open Go.RowKit
def wriB (x : Wri) : Bool := keyB x.1 && numB x.2.1 && (!x.2.2 || x.2.1 == 0)
open Classical in
noncomputable def wrsB (most : Nat) (l : List Wri) : Bool := decide (l.length ≤ most ∧ (∀ x ∈ l, wriB x = true) ∧ ∀ (i : Nat) (x y : Wri), l[i]? = some x → l[i + 1]? = some y → ltB x.1 y.1 = true)
def ascP (l : List Wri) (k : Nat) : Prop := ∀ (i : Nat) (x y : Wri), i + 1 < k → l[i]? = some x → l[i + 1]? = some y → ltB x.1 y.1 = true
open Classical in
noncomputable def asc (l : List Wri) : Bool := decide (ascP l l.length)
theorem asc_yes {l : List Wri} (h : ascP l l.length) : asc l = true := by unfold asc; simpa using h
theorem wrsB_iff {most : Nat} {l : List Wri} : wrsB most l = true ↔ l.length ≤ most ∧ (∀ x ∈ l, wriB x = true) ∧ asc l = true := by
  have h : asc l = true ↔ ∀ (i : Nat) (x y : Wri), l[i]? = some x → l[i + 1]? = some y → ltB x.1 y.1 = true := by
    unfold asc ascP
    simp only [decide_eq_true_eq]
    exact ⟨fun h i x y h1 h2 => h i x y (List.getElem?_eq_some_iff.1 h2).1 h1 h2, fun h i x y _ h1 h2 => h i x y h1 h2⟩
  rw [h]
  unfold wrsB
  simp only [decide_eq_true_eq]
end Go.Proofs.Ytpjkcmmmpgncmaa
