import Derived.LaidEql
import Derived.Stop.Asserts
import Derived.RowKitTokens
import Derived.Test.YtfmhhckkpenldaaGreatDoorM01
import Derived.Maps.AppendAt
import Derived.Test.YtfmhhckkpenldaaGreatDoorVerA
import Derived.Lib.Bytealg
/- The program's LetterTake: measured, errors.Is at the one sentinel, the letter itself. -/
namespace Go.Proofs.YtfmhhckkpenldaaGreatDoor
open Go.RowKit
open Go.Extern
/-- byte i of s, 0 behind its end -/
def byt (s : ByteArray) (i : Nat) : Int := ((s.data.getD i 0).toNat : Int)
theorem byt_lo (s : ByteArray) (i : Nat) : 0 ≤ byt s i := by unfold byt; omega
theorem byt_hi (s : ByteArray) (i : Nat) : byt s i ≤ 255 := by unfold byt; have := (s.data.getD i 0).toNat_lt; omega
theorem byt_eq (s : ByteArray) (i : Nat) (h : i < s.size) : ((s[i].toNat : Nat) : Int) = byt s i := by
  unfold byt; rw [Array.getD_eq_getD_getElem?, Array.getElem?_eq_getElem (by simpa using h)]; rfl
end Go.Proofs.YtfmhhckkpenldaaGreatDoor
/- More words for memory: owned rows over a callee that leaves old memory alone, new blocks as sources of append. -/
namespace Go.Proofs.YtfmhhckkpenldaaGreatDoor
open Go.RowKit
theorem own_kept {w w' : World} {base : Nat} {e : TypeId} {k n : Nat} {v : Value} {xs : List Value} (h : w.ownsRow base e k v n xs) (hb : Below w.heap.size w w') : w'.ownsRow base e k v n xs := by
  refine ⟨h.1, ?_⟩
  rcases h.2 with h2 | ⟨g, cap, cur, hv, hg, hh, r⟩
  · exact .inl h2
  · exact .inr ⟨g, cap, cur, hv, hg, (hb.block g (Blk.lt (t := e) hh)).trans hh, r⟩
theorem new_cells (w : World) (xs : List Value) (t : TypeId) : ∀ j u, xs[j]? = some u → (w.alloc (.cells xs.toArray t)).cell? ((⟨w.heap.size, 0, none⟩ : Addr).add j) = some u := by
  intro j u hj
  rw [Go.WideShapes.add_plain, Nat.zero_add, (Blk.new w t xs.toArray).cell j]
  simpa using hj
theorem below_own {w w' : World} {B : Nat} {row : Option Nat} (hb : Below B w w') {w2 : World} (hg : w'.grownBy w2 row) (hB : B ≤ w'.heap.size) (hr : ∀ k, row = some k → B ≤ k) : Below B w w2 := hb.grown hg hB hr
end Go.Proofs.YtfmhhckkpenldaaGreatDoor
/- When a store is right: plain words. -/
namespace Go.Proofs.YtfmhhckkpenldaaGreatDoor
open Go.RowKit
abbrev Row : Type := ByteArray × Int
def encRow (x : Row) : List Value := [.string x.1, .int .i64 x.2]
theorem encRow_len (x : Row) : (encRow x).length = 2 := rfl
abbrev rowOf (x : Ver) : Row := (x.1, x.2.1)
def atL (l : List Ver) (t : Int) : List Row := (l.filter (fun x => visB x t)).map rowOf
def VersP (now : Int) (l : List Ver) : Prop :=
  (0 ≤ now ∧ now ≤ 40 ∧ l.length ≤ 60) ∧ (∀ i, i < l.length → ∀ x, l[i]? = some x → verB x now = true) ∧ (∀ i, i < l.length → ∀ x y, l[i]? = some x → l[i + 1]? = some y → aheadB x y = true) ∧ ∀ t : Nat, t < 41 → (t : Int) ≤ now → (atL l t).length ≤ 10
open Classical in
noncomputable def versB (now : Int) (l : List Ver) : Bool := decide (VersP now l)
theorem versB_yes {now : Int} {l : List Ver} (h : VersP now l) : versB now l = true := by unfold versB; simpa using h
theorem versB_no {now : Int} {l : List Ver} (h : ¬ VersP now l) : versB now l = false := by unfold versB; simpa using h
theorem versB_out {now : Int} {l : List Ver} (h : versB now l = true) : VersP now l := by unfold versB at h; simpa using h
theorem atL_take_yes {l : List Ver} {k : Nat} {t : Int} (h : k < l.length) (hv : visB l[k] t = true) : atL (l.take (k + 1)) t = atL (l.take k) t ++ [rowOf l[k]] := by
  unfold atL; rw [List.take_succ_eq_append_getElem h, List.filter_append, List.map_append]; simp [hv]
theorem atL_take_no {l : List Ver} {k : Nat} {t : Int} (h : k < l.length) (hv : visB l[k] t = false) : atL (l.take (k + 1)) t = atL (l.take k) t := by
  unfold atL; rw [List.take_succ_eq_append_getElem h, List.filter_append, List.map_append]; simp [hv]
theorem atL_le (l : List Ver) (t : Int) : (atL l t).length ≤ l.length := by unfold atL; rw [List.length_map]; exact List.length_filter_le _ _
def FitsV (l : List Ver) : Prop := l.length ≤ maxLen ∧ ∀ x ∈ l, x.1.size ≤ maxLen
end Go.Proofs.YtfmhhckkpenldaaGreatDoor
/- Plain words: a text cut at a byte: the pieces; a text of two pieces is one that is cut once. -/
namespace Go.Proofs.YtfmhhckkpenldaaGreatDoor
open Go.RowKit
theorem snoc_rec {α : Type} {P : List α → Prop} (h0 : P []) (h1 : ∀ l x, P l → P (l ++ [x])) (l : List α) : P l := by
  have : ∀ r : List α, P r.reverse := fun r => by
    induction r with
    | nil => exact h0
    | cons a r ih => rw [List.reverse_cons]; exact h1 _ _ ih
  rw [← List.reverse_reverse l]; exact this _
/-- what is cut so far: the pieces that are over, and the one that has begun -/
def cutSt (c : UInt8) (l : List UInt8) : List (List UInt8) × List UInt8 := l.foldl (fun p x => if x = c then (p.1 ++ [p.2], []) else (p.1, p.2 ++ [x])) ([], [])
def pieces (c : UInt8) (l : List UInt8) : List (List UInt8) := (cutSt c l).1 ++ [(cutSt c l).2]
theorem cutSt_snoc (c : UInt8) (l : List UInt8) (x : UInt8) : cutSt c (l ++ [x]) = if x = c then ((cutSt c l).1 ++ [(cutSt c l).2], []) else ((cutSt c l).1, (cutSt c l).2 ++ [x]) := by
  unfold cutSt; rw [List.foldl_append]; rfl
theorem cutSt_take (c : UInt8) (l : List UInt8) (k : Nat) (h : k < l.length) : cutSt c (l.take (k+1)) = if l[k] = c then ((cutSt c (l.take k)).1 ++ [(cutSt c (l.take k)).2], []) else ((cutSt c (l.take k)).1, (cutSt c (l.take k)).2 ++ [l[k]]) := by
  rw [List.take_succ_eq_append_getElem h, cutSt_snoc]
/-- the piece that has begun is the text's end -/
theorem cutSt_tail (c : UInt8) (l : List UInt8) : (cutSt c l).2.length ≤ l.length ∧ (cutSt c l).2 = l.drop (l.length - (cutSt c l).2.length) := by
  induction l using snoc_rec with
  | h0 => exact ⟨Nat.le_refl _, rfl⟩
  | h1 l x ih =>
    rw [cutSt_snoc]
    by_cases h : x = c
    · rw [if_pos h]; simp
    · rw [if_neg h]
      obtain ⟨h1, h2⟩ := ih
      refine ⟨by simp; omega, ?_⟩
      simp only [List.length_append, List.length_cons, List.length_nil]
      rw [show l.length + (0 + 1) - ((cutSt c l).2.length + (0 + 1)) = l.length - (cutSt c l).2.length by omega, List.drop_append_of_le_length (by omega), ← h2]
theorem cutSt_count (c : UInt8) (l : List UInt8) : (cutSt c l).1.length = l.count c := by
  induction l using snoc_rec with
  | h0 => rfl
  | h1 l x ih =>
    rw [cutSt_snoc, List.count_append]
    by_cases h : x = c
    · rw [if_pos h]; simp [ih, h]
    · rw [if_neg h]; simp [ih, h]
theorem cutSt_none (c : UInt8) (l : List UInt8) (h : c ∉ l) : cutSt c l = ([], l) := by
  induction l using snoc_rec with
  | h0 => rfl
  | h1 l x ih =>
    rw [cutSt_snoc, ih (fun e => h (by simp [e])), if_neg (fun e => h (by simp [e]))]
theorem cutSt_once (c : UInt8) (a b : List UInt8) (ha : c ∉ a) (hb : c ∉ b) : cutSt c (a ++ c :: b) = ([a], b) := by
  induction b using snoc_rec with
  | h0 => rw [cutSt_snoc, cutSt_none c a ha, if_pos rfl]; rfl
  | h1 b x ih =>
    rw [show a ++ c :: (b ++ [x]) = (a ++ c :: b) ++ [x] by simp, cutSt_snoc, ih (fun e => hb (by simp [e])), if_neg (fun e => hb (by simp [e]))]
theorem indexByte_neg {l : List UInt8} {c : UInt8} (h : Lib.indexByte l c < 0) : c ∉ l := by
  induction l with
  | nil => simp
  | cons b l ih =>
    unfold Lib.indexByte at h
    have hge := Lib.indexByte_ge l c
    split at h
    · omega
    · rename_i hb
      split at h
      · rename_i hm
        have hm : Lib.indexByte l c = -1 := by simpa using hm
        intro e
        rcases List.mem_cons.1 e with e | e
        · subst e; simp at hb
        · exact ih (by omega) e
      · omega
theorem indexByte_at {l : List UInt8} {c : UInt8} : ∀ {i : Nat}, Lib.indexByte l c = (i : Int) → i < l.length ∧ l = l.take i ++ c :: l.drop (i + 1) ∧ c ∉ l.take i := by
  induction l with
  | nil => intro i h; unfold Lib.indexByte at h; omega
  | cons b l ih =>
    intro i h
    unfold Lib.indexByte at h
    have hge := Lib.indexByte_ge l c
    split at h
    · rename_i hb
      obtain rfl : i = 0 := by omega
      have : b = c := by simpa using hb
      subst this; simp
    · rename_i hb
      have hb : ¬ b = c := by simpa using hb
      split at h
      · omega
      · obtain ⟨j, rfl⟩ : ∃ j, i = j + 1 := ⟨i - 1, by
          rename_i hm
          have : ¬ Lib.indexByte l c = -1 := by simpa using hm
          omega⟩
        obtain ⟨h1, h2, h3⟩ := ih (i := j) (by omega)
        refine ⟨by simp; omega, ?_, ?_⟩
        · rw [List.take_succ_cons, List.drop_succ_cons, List.cons_append, ← h2]
        · rw [List.take_succ_cons]; simp [h3]; exact fun e => hb e.symm
/-- two pieces: what lies ahead of the first byte c, and what behind it, with no more such byte -/
theorem pieces_two {c : UInt8} {l : List UInt8} {i : Nat} (h : Lib.indexByte l c = (i : Int)) : (pieces c l).length = 2 ↔ c ∉ l.drop (i + 1) := by
  obtain ⟨h1, h2, h3⟩ := indexByte_at h
  unfold pieces
  rw [List.length_append, cutSt_count]
  conv => lhs; rw [h2]
  rw [List.count_append, List.count_cons_self, List.count_eq_zero.2 h3]
  rw [← List.count_eq_zero]
  simp
theorem pieces_are {c : UInt8} {l : List UInt8} {i : Nat} (h : Lib.indexByte l c = (i : Int)) (hn : c ∉ l.drop (i + 1)) : pieces c l = [l.take i, l.drop (i + 1)] := by
  obtain ⟨h1, h2, h3⟩ := indexByte_at h
  have := cutSt_once c _ _ h3 hn
  rw [← h2] at this
  unfold pieces; rw [this]; rfl
theorem pieces_miss {c : UInt8} {l : List UInt8} (h : Lib.indexByte l c < 0) : (pieces c l).length = 1 := by
  unfold pieces; rw [cutSt_none c l (indexByte_neg h)]; rfl
end Go.Proofs.YtfmhhckkpenldaaGreatDoor
