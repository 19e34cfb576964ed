import Derived.Test.YtpjkcmmmpgncmaaM01
import Derived.Test.YtpjkcmmmpgncmaaM05
import Derived.Test.YtpjkcmmmpgncmaaM09
import Derived.Test.YtpjkcmmmpgncmaaLtrM
import Derived.Test.YtpjkcmmmpgncmaaM07
/- When a store is right: plain words. -/
namespace Go.Proofs.Ytpjkcmmmpgncmaa
open Go.RowKit
abbrev Row : Type := ByteArray × Int
def encRow (x : Row) : List Value := [.string x.1, .int .i64 x.2]
theorem encRow_len (x : Row) : (encRow x).length = 2 := rfl
abbrev rowOf (x : Ver) : Row := (x.1, x.2.1)
def atL (l : List Ver) (t : Int) : List Row := (l.filter (fun x => visB x t)).map rowOf
def VersP (now : Int) (l : List Ver) : Prop :=
  (0 ≤ now ∧ now ≤ 40 ∧ l.length ≤ 60) ∧ (∀ i, i < l.length → ∀ x, l[i]? = some x → verB x now = true) ∧ (∀ i, i < l.length → ∀ x y, l[i]? = some x → l[i + 1]? = some y → aheadB x y = true) ∧ ∀ t : Nat, t < 41 → (t : Int) ≤ now → (atL l t).length ≤ 10
open Classical in
noncomputable def versB (now : Int) (l : List Ver) : Bool := decide (VersP now l)
theorem versB_yes {now : Int} {l : List Ver} (h : VersP now l) : versB now l = true := by unfold versB; simpa using h
theorem versB_no {now : Int} {l : List Ver} (h : ¬ VersP now l) : versB now l = false := by unfold versB; simpa using h
theorem versB_out {now : Int} {l : List Ver} (h : versB now l = true) : VersP now l := by unfold versB at h; simpa using h
theorem atL_take_yes {l : List Ver} {k : Nat} {t : Int} (h : k < l.length) (hv : visB l[k] t = true) : atL (l.take (k + 1)) t = atL (l.take k) t ++ [rowOf l[k]] := by
  unfold atL; rw [List.take_succ_eq_append_getElem h, List.filter_append, List.map_append]; simp [hv]
theorem atL_take_no {l : List Ver} {k : Nat} {t : Int} (h : k < l.length) (hv : visB l[k] t = false) : atL (l.take (k + 1)) t = atL (l.take k) t := by
  unfold atL; rw [List.take_succ_eq_append_getElem h, List.filter_append, List.map_append]; simp [hv]
theorem atL_le (l : List Ver) (t : Int) : (atL l t).length ≤ l.length := by unfold atL; rw [List.length_map]; exact List.length_filter_le _ _
def FitsV (l : List Ver) : Prop := l.length ≤ maxLen ∧ ∀ x ∈ l, x.1.size ≤ maxLen
end Go.Proofs.Ytpjkcmmmpgncmaa
/- Plain words: what a commit does to a store: the reference's way, the program's way, and that they are one where the store is right. -/
namespace Go.Proofs.Ytpjkcmmmpgncmaa
open Go.RowKit
/-- one version closed at a time, if it is of the key and still stands -/
def closeV (key : ByteArray) (now : Int) (x : Ver) : Ver := if x.1 = key ∧ x.2.2.2 = 0 then (x.1, x.2.1, x.2.2.1, now) else x
def closeL (key : ByteArray) (now : Int) (l : List Ver) : List Ver := l.map (closeV key now)
/-- the place behind the last version whose key is not greater -/
def atOf (key : ByteArray) (l : List Ver) : Nat := l.zipIdx.foldl (fun a p => if kLt key p.1.1 then a else p.2 + 1) 0
def insV (l : List Ver) (at_ : Nat) (w : Wri) (now : Int) : List Ver := if w.2.2 then l else l.take at_ ++ (w.1, w.2.1, now, 0) :: l.drop at_
/-- one write, the reference's way -/
def writeS (now : Int) (l : List Ver) (w : Wri) : List Ver := insV (closeL w.1 now l) (atOf w.1 l) w now
/-- all of a commit -/
def doS (now : Int) (l : List Ver) (ws : List Wri) : List Ver := ws.foldl (writeS now) l
theorem atOf_snoc (key : ByteArray) (l : List Ver) (x : Ver) : atOf key (l ++ [x]) = if kLt key x.1 then atOf key l else l.length + 1 := by
  unfold atOf; rw [List.zipIdx_append, List.foldl_append]; simp
theorem atOf_le (key : ByteArray) (l : List Ver) : atOf key l ≤ l.length := by
  have : ∀ r : List Ver, atOf key r.reverse ≤ r.reverse.length := fun r => by
    induction r with
    | nil => exact Nat.le_refl _
    | cons a r ih =>
      rw [List.reverse_cons, atOf_snoc]
      split
      · simp at ih ⊢; omega
      · simp
  have h := this l.reverse
  rwa [List.reverse_reverse] at h
theorem atOf_take (key : ByteArray) (l : List Ver) (k : Nat) (h : k < l.length) : atOf key (l.take (k+1)) = if kLt key l[k].1 then atOf key (l.take k) else k + 1 := by
  rw [List.take_succ_eq_append_getElem h, atOf_snoc, List.length_take, Nat.min_eq_left (by omega)]
theorem closeV_key (key : ByteArray) (now : Int) (x : Ver) : (closeV key now x).1 = x.1 := by unfold closeV; split <;> rfl
theorem closeL_len (key : ByteArray) (now : Int) (l : List Ver) : (closeL key now l).length = l.length := by simp [closeL]
theorem writeS_len (now : Int) (l : List Ver) (w : Wri) : (writeS now l w).length ≤ l.length + 1 := by
  unfold writeS insV
  split
  · rw [closeL_len]; omega
  · have := atOf_le w.1 l
    have h2 := closeL_len w.1 now l
    simp; omega
theorem writeS_fits {now : Int} {l : List Ver} {w : Wri} (hl : ∀ x ∈ l, x.1.size ≤ maxLen) (hw : w.1.size ≤ maxLen) : ∀ x ∈ writeS now l w, x.1.size ≤ maxLen := by
  have hc : ∀ x ∈ closeL w.1 now l, x.1.size ≤ maxLen := by
    intro x hx
    unfold closeL at hx
    obtain ⟨x0, h0, rfl⟩ := List.mem_map.1 hx
    rw [closeV_key]; exact hl x0 h0
  unfold writeS insV
  split
  · exact hc
  · intro x hx
    rw [List.mem_append, List.mem_cons] at hx
    rcases hx with hx | rfl | hx
    · exact hc x (List.mem_of_mem_take hx)
    · exact hw
    · exact hc x (List.mem_of_mem_drop hx)
end Go.Proofs.Ytpjkcmmmpgncmaa
/- Drawing letters. -/
namespace Go.Proofs.Ytpjkcmmmpgncmaa
open Go.RowKit
theorem Rd.grown {w0 w w' : World} {A : Option Addr} {bs : List UInt8} {c g q : Nat} {row : Option Nat} (h : Rd w0 w A bs c g q) (hg : w.grownBy w' row) (hr : ∀ j, row = some j → g < j) : Rd w0 w' A bs c g q :=
  ⟨h.1.grown hg (fun he => by have := hr g he.symm; omega), h.2.1.grown hg h.2.1.size (fun j hj => by have := hr j hj; have := h.2.2.1; omega), h.2.2⟩
def LensOk (l : List Let) : Prop := ∀ x ∈ l, x.1.size ≤ 2 ∧ x.2.size ≤ 900
theorem LensOk.add {l : List Let} (h : LensOk l) {x : Let} (h1 : x.1.size ≤ 2) (h2 : x.2.size ≤ 900) : LensOk (l ++ [x]) := by
  intro y hy
  rcases List.mem_append.1 hy with hy | hy
  · exact h y hy
  · simp at hy; subst hy; exact ⟨h1, h2⟩
end Go.Proofs.Ytpjkcmmmpgncmaa
