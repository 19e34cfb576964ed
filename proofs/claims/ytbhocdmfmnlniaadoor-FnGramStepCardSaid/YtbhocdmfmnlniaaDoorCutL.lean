/- Plain words: a text cut at a byte: the pieces; a text of two pieces is one that is cut once. -/
import Derived.Test.YtbhocdmfmnlniaaDoorLib
import Derived.Lib.Bytealg
namespace Go.Proofs.YtbhocdmfmnlniaaDoor
open Go.RowKit
theorem snoc_rec {α : Type} {P : List α → Prop} (h0 : P []) (h1 : ∀ l x, P l → P (l ++ [x])) (l : List α) : P l := by
  have : ∀ r : List α, P r.reverse := fun r => by
    induction r with
    | nil => exact h0
    | cons a r ih => rw [List.reverse_cons]; exact h1 _ _ ih
  rw [← List.reverse_reverse l]; exact this _
/-- what is cut so far: the pieces that are over, and the one that has begun -/
def cutSt (c : UInt8) (l : List UInt8) : List (List UInt8) × List UInt8 := l.foldl (fun p x => if x = c then (p.1 ++ [p.2], []) else (p.1, p.2 ++ [x])) ([], [])
def pieces (c : UInt8) (l : List UInt8) : List (List UInt8) := (cutSt c l).1 ++ [(cutSt c l).2]
theorem cutSt_snoc (c : UInt8) (l : List UInt8) (x : UInt8) : cutSt c (l ++ [x]) = if x = c then ((cutSt c l).1 ++ [(cutSt c l).2], []) else ((cutSt c l).1, (cutSt c l).2 ++ [x]) := by
  unfold cutSt; rw [List.foldl_append]; rfl
theorem cutSt_take (c : UInt8) (l : List UInt8) (k : Nat) (h : k < l.length) : cutSt c (l.take (k+1)) = if l[k] = c then ((cutSt c (l.take k)).1 ++ [(cutSt c (l.take k)).2], []) else ((cutSt c (l.take k)).1, (cutSt c (l.take k)).2 ++ [l[k]]) := by
  rw [List.take_succ_eq_append_getElem h, cutSt_snoc]
/-- the piece that has begun is the text's end -/
theorem cutSt_tail (c : UInt8) (l : List UInt8) : (cutSt c l).2.length ≤ l.length ∧ (cutSt c l).2 = l.drop (l.length - (cutSt c l).2.length) := by
  induction l using snoc_rec with
  | h0 => exact ⟨Nat.le_refl _, rfl⟩
  | h1 l x ih =>
    rw [cutSt_snoc]
    by_cases h : x = c
    · rw [if_pos h]; simp
    · rw [if_neg h]
      obtain ⟨h1, h2⟩ := ih
      refine ⟨by simp; omega, ?_⟩
      simp only [List.length_append, List.length_cons, List.length_nil]
      rw [show l.length + (0 + 1) - ((cutSt c l).2.length + (0 + 1)) = l.length - (cutSt c l).2.length by omega, List.drop_append_of_le_length (by omega), ← h2]
theorem cutSt_count (c : UInt8) (l : List UInt8) : (cutSt c l).1.length = l.count c := by
  induction l using snoc_rec with
  | h0 => rfl
  | h1 l x ih =>
    rw [cutSt_snoc, List.count_append]
    by_cases h : x = c
    · rw [if_pos h]; simp [ih, h]
    · rw [if_neg h]; simp [ih, h]
theorem cutSt_none (c : UInt8) (l : List UInt8) (h : c ∉ l) : cutSt c l = ([], l) := by
  induction l using snoc_rec with
  | h0 => rfl
  | h1 l x ih =>
    rw [cutSt_snoc, ih (fun e => h (by simp [e])), if_neg (fun e => h (by simp [e]))]
theorem cutSt_once (c : UInt8) (a b : List UInt8) (ha : c ∉ a) (hb : c ∉ b) : cutSt c (a ++ c :: b) = ([a], b) := by
  induction b using snoc_rec with
  | h0 => rw [cutSt_snoc, cutSt_none c a ha, if_pos rfl]; rfl
  | h1 b x ih =>
    rw [show a ++ c :: (b ++ [x]) = (a ++ c :: b) ++ [x] by simp, cutSt_snoc, ih (fun e => hb (by simp [e])), if_neg (fun e => hb (by simp [e]))]
theorem indexByte_neg {l : List UInt8} {c : UInt8} (h : Lib.indexByte l c < 0) : c ∉ l := by
  induction l with
  | nil => simp
  | cons b l ih =>
    unfold Lib.indexByte at h
    have hge := Lib.indexByte_ge l c
    split at h
    · omega
    · rename_i hb
      split at h
      · rename_i hm
        have hm : Lib.indexByte l c = -1 := by simpa using hm
        intro e
        rcases List.mem_cons.1 e with e | e
        · subst e; simp at hb
        · exact ih (by omega) e
      · omega
theorem indexByte_at {l : List UInt8} {c : UInt8} : ∀ {i : Nat}, Lib.indexByte l c = (i : Int) → i < l.length ∧ l = l.take i ++ c :: l.drop (i + 1) ∧ c ∉ l.take i := by
  induction l with
  | nil => intro i h; unfold Lib.indexByte at h; omega
  | cons b l ih =>
    intro i h
    unfold Lib.indexByte at h
    have hge := Lib.indexByte_ge l c
    split at h
    · rename_i hb
      obtain rfl : i = 0 := by omega
      have : b = c := by simpa using hb
      subst this; simp
    · rename_i hb
      have hb : ¬ b = c := by simpa using hb
      split at h
      · omega
      · obtain ⟨j, rfl⟩ : ∃ j, i = j + 1 := ⟨i - 1, by
          rename_i hm
          have : ¬ Lib.indexByte l c = -1 := by simpa using hm
          omega⟩
        obtain ⟨h1, h2, h3⟩ := ih (i := j) (by omega)
        refine ⟨by simp; omega, ?_, ?_⟩
        · rw [List.take_succ_cons, List.drop_succ_cons, List.cons_append, ← h2]
        · rw [List.take_succ_cons]; simp [h3]; exact fun e => hb e.symm
/-- two pieces: what lies ahead of the first byte c, and what behind it, with no more such byte -/
theorem pieces_two {c : UInt8} {l : List UInt8} {i : Nat} (h : Lib.indexByte l c = (i : Int)) : (pieces c l).length = 2 ↔ c ∉ l.drop (i + 1) := by
  obtain ⟨h1, h2, h3⟩ := indexByte_at h
  unfold pieces
  rw [List.length_append, cutSt_count]
  conv => lhs; rw [h2]
  rw [List.count_append, List.count_cons_self, List.count_eq_zero.2 h3]
  rw [← List.count_eq_zero]
  simp
theorem pieces_are {c : UInt8} {l : List UInt8} {i : Nat} (h : Lib.indexByte l c = (i : Int)) (hn : c ∉ l.drop (i + 1)) : pieces c l = [l.take i, l.drop (i + 1)] := by
  obtain ⟨h1, h2, h3⟩ := indexByte_at h
  have := cutSt_once c _ _ h3 hn
  rw [← h2] at this
  unfold pieces; rw [this]; rfl
theorem pieces_miss {c : UInt8} {l : List UInt8} (h : Lib.indexByte l c < 0) : (pieces c l).length = 1 := by
  unfold pieces; rw [cutSt_none c l (indexByte_neg h)]; rfl
end Go.Proofs.YtbhocdmfmnlniaaDoor
