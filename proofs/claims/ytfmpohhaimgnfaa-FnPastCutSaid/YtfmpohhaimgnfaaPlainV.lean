/- Plain words: what is done turns the rows from now on alone. -/
import Derived.Test.YtfmpohhaimgnfaaImplAt
import Derived.Test.YtfmpohhaimgnfaaImplDo
namespace Go.Proofs.Ytfmpohhaimgnfaa
open Go.RowKit
theorem vis_close {key : ByteArray} {now t : Int} (x : Ver) (h : t < now) : visB (closeV key now x) t = visB x t := by
  unfold closeV
  split
  · rename_i h2
    unfold visB
    simp [h2.2, h]
  · rfl
theorem row_close {key : ByteArray} {now : Int} (x : Ver) : rowOf (closeV key now x) = rowOf x := by
  unfold closeV
  split
  · rfl
  · rfl
theorem atL_close {key : ByteArray} {now t : Int} (h : t < now) (l : List Ver) : atL (closeL key now l) t = atL l t := by
  unfold atL closeL
  induction l with
  | nil => rfl
  | cons x l ih =>
    rw [List.map_cons, List.filter_cons, List.filter_cons, vis_close x h]
    split
    · rw [List.map_cons, List.map_cons, ih, row_close]
    · exact ih
theorem atL_ins {now t : Int} (h : t < now) (l : List Ver) (k : Nat) (w : Wri) : atL (insV l k w now) t = atL l t := by
  unfold insV
  split
  · rfl
  · conv => rhs; rw [← List.take_append_drop k l]
    unfold atL
    rw [List.filter_append, List.filter_append, List.filter_cons]
    have hv : visB (w.1, w.2.1, now, 0) t = false := by
      unfold visB
      have : ¬ now ≤ t := by omega
      simp [this]
    rw [hv]
    simp
theorem atL_write {now t : Int} (h : t < now) (l : List Ver) (w : Wri) : atL (writeS now l w) t = atL l t := by
  unfold writeS; rw [atL_ins h, atL_close h]
theorem atL_do {now t : Int} (h : t < now) : ∀ (ws : List Wri) (l : List Ver), atL (doS now l ws) t = atL l t := by
  intro ws
  unfold doS
  induction ws with
  | nil => intro l; rfl
  | cons w ws ih => intro l; rw [List.foldl_cons, ih, atL_write h]
theorem atL_next {now : Int} {l : List Ver} (h : versB now l = true) : atL l (now + 1) = atL l now := by
  unfold atL
  congr 1
  apply List.filter_congr
  intro x hx
  obtain ⟨i, hi⟩ := List.getElem?_of_mem hx
  have h2 := (versB_out h).2.1 i (List.getElem?_eq_some_iff.1 hi).1 x hi
  unfold verB at h2
  simp only [Bool.and_eq_true, Bool.or_eq_true, decide_eq_true_eq, beq_iff_eq] at h2
  unfold visB
  rw [Bool.eq_iff_iff]
  simp only [Bool.and_eq_true, Bool.or_eq_true, decide_eq_true_eq, beq_iff_eq]
  omega
theorem doV_ok {now nw : Int} {l L : List Ver} {ws : List Wri} (h : doV now l ws = ((nw, L), true)) : nw = now + 1 ∧ L = doS (now + 1) l ws ∧ versB now l = true ∧ versB (now + 1) (doS (now + 1) l ws) = true := by
  unfold doV at h
  split at h
  · rename_i h1
    split at h
    · split at h
      · rename_i h3
        simp only [Prod.mk.injEq, and_true] at h
        exact ⟨h.1.symm, h.2.symm, h1, h3⟩
      · simp at h
    · simp at h
  · simp at h
theorem doV_nil {now nw : Int} {l L : List Ver} (h : doV now l [] = ((nw, L), true)) : nw = now + 1 ∧ L = l ∧ versB now l = true ∧ versB (now + 1) l = true := doV_ok h
theorem OwnR.reads {w : World} {B c n : Nat} {A : Option Addr} {l : List Row} (h : OwnR w B (.slice A n c) l) : Sl encRow 2 w A l := by
  obtain ⟨a1, a2, a3, _, _, a4⟩ := h.sl
  injection a3 with b1 b2 b3
  subst b1; exact a4
theorem OwnR.below {w w' : World} {B : Nat} {v : Value} {l : List Row} (h : OwnR w B v l) (hb : Below w.heap.size w w') : OwnR w' B v l := own_kept h hb
theorem doV_len (now : Int) (l : List Ver) (ws : List Wri) : (doV now l ws).1.2.length ≤ l.length + ws.length := by
  unfold doV
  have := doS_len (now + 1) ws l
  split
  · split
    · split
      · exact this
      · exact Nat.le_add_right _ _
    · exact Nat.le_add_right _ _
  · exact Nat.zero_le _
end Go.Proofs.Ytfmpohhaimgnfaa
