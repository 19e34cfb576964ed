/- When a store is right: plain words. -/
import Derived.Test.YtpjkcmmmpgncmaaVerA
import Derived.Test.YtpjkcmmmpgncmaaLibB
namespace Go.Proofs.Ytpjkcmmmpgncmaa
open Go.RowKit
abbrev Row : Type := ByteArray × Int
def encRow (x : Row) : List Value := [.string x.1, .int .i64 x.2]
theorem encRow_len (x : Row) : (encRow x).length = 2 := rfl
abbrev rowOf (x : Ver) : Row := (x.1, x.2.1)
def atL (l : List Ver) (t : Int) : List Row := (l.filter (fun x => visB x t)).map rowOf
def VersP (now : Int) (l : List Ver) : Prop :=
  (0 ≤ now ∧ now ≤ 40 ∧ l.length ≤ 60) ∧ (∀ i, i < l.length → ∀ x, l[i]? = some x → verB x now = true) ∧ (∀ i, i < l.length → ∀ x y, l[i]? = some x → l[i + 1]? = some y → aheadB x y = true) ∧ ∀ t : Nat, t < 41 → (t : Int) ≤ now → (atL l t).length ≤ 10
open Classical in
noncomputable def versB (now : Int) (l : List Ver) : Bool := decide (VersP now l)
theorem versB_yes {now : Int} {l : List Ver} (h : VersP now l) : versB now l = true := by unfold versB; simpa using h
theorem versB_no {now : Int} {l : List Ver} (h : ¬ VersP now l) : versB now l = false := by unfold versB; simpa using h
theorem versB_out {now : Int} {l : List Ver} (h : versB now l = true) : VersP now l := by unfold versB at h; simpa using h
theorem atL_take_yes {l : List Ver} {k : Nat} {t : Int} (h : k < l.length) (hv : visB l[k] t = true) : atL (l.take (k + 1)) t = atL (l.take k) t ++ [rowOf l[k]] := by
  unfold atL; rw [List.take_succ_eq_append_getElem h, List.filter_append, List.map_append]; simp [hv]
theorem atL_take_no {l : List Ver} {k : Nat} {t : Int} (h : k < l.length) (hv : visB l[k] t = false) : atL (l.take (k + 1)) t = atL (l.take k) t := by
  unfold atL; rw [List.take_succ_eq_append_getElem h, List.filter_append, List.map_append]; simp [hv]
theorem atL_le (l : List Ver) (t : Int) : (atL l t).length ≤ l.length := by unfold atL; rw [List.length_map]; exact List.length_filter_le _ _
def FitsV (l : List Ver) : Prop := l.length ≤ maxLen ∧ ∀ x ∈ l, x.1.size ≤ maxLen
end Go.Proofs.Ytpjkcmmmpgncmaa
