/- Plain words: what a commit does to a store: the reference's way, the program's way, and that they are one where the store is right. -/
import Derived.Test.YtpjkcmmmpgncmaaVerP
import Derived.Test.YtpjkcmmmpgncmaaWriD
import Derived.Test.YtpjkcmmmpgncmaaOrd
namespace Go.Proofs.Ytpjkcmmmpgncmaa
open Go.RowKit
/-- one version closed at a time, if it is of the key and still stands -/
def closeV (key : ByteArray) (now : Int) (x : Ver) : Ver := if x.1 = key ∧ x.2.2.2 = 0 then (x.1, x.2.1, x.2.2.1, now) else x
def closeL (key : ByteArray) (now : Int) (l : List Ver) : List Ver := l.map (closeV key now)
/-- the place behind the last version whose key is not greater -/
def atOf (key : ByteArray) (l : List Ver) : Nat := l.zipIdx.foldl (fun a p => if kLt key p.1.1 then a else p.2 + 1) 0
def insV (l : List Ver) (at_ : Nat) (w : Wri) (now : Int) : List Ver := if w.2.2 then l else l.take at_ ++ (w.1, w.2.1, now, 0) :: l.drop at_
/-- one write, the reference's way -/
def writeS (now : Int) (l : List Ver) (w : Wri) : List Ver := insV (closeL w.1 now l) (atOf w.1 l) w now
/-- all of a commit -/
def doS (now : Int) (l : List Ver) (ws : List Wri) : List Ver := ws.foldl (writeS now) l
/-- in order, and of one key only the last may still stand -/
def Ordd (l : List Ver) : Prop := ∀ (i j : Nat) (x y : Ver), l[i]? = some x → l[j]? = some y → i < j → ¬ kLt y.1 x.1 ∧ (x.1 = y.1 → x.2.2.2 ≠ 0)
/-- e parts the store: ahead of it the keys that are not greater -/
def Parts (key : ByteArray) (l : List Ver) (e : Nat) : Prop := e ≤ l.length ∧ (∀ i x, i < e → l[i]? = some x → ¬ kLt key x.1) ∧ ∀ i x, e ≤ i → l[i]? = some x → kLt key x.1
theorem atOf_snoc (key : ByteArray) (l : List Ver) (x : Ver) : atOf key (l ++ [x]) = if kLt key x.1 then atOf key l else l.length + 1 := by
  unfold atOf; rw [List.zipIdx_append, List.foldl_append]; simp
theorem atOf_le (key : ByteArray) (l : List Ver) : atOf key l ≤ l.length := by
  have : ∀ r : List Ver, atOf key r.reverse ≤ r.reverse.length := fun r => by
    induction r with
    | nil => exact Nat.le_refl _
    | cons a r ih =>
      rw [List.reverse_cons, atOf_snoc]
      split
      · simp at ih ⊢; omega
      · simp
  have h := this l.reverse
  rwa [List.reverse_reverse] at h
theorem atOf_take (key : ByteArray) (l : List Ver) (k : Nat) (h : k < l.length) : atOf key (l.take (k+1)) = if kLt key l[k].1 then atOf key (l.take k) else k + 1 := by
  rw [List.take_succ_eq_append_getElem h, atOf_snoc, List.length_take, Nat.min_eq_left (by omega)]
theorem parts_at {key : ByteArray} {l : List Ver} {e : Nat} (h : Parts key l e) : atOf key l = e := by
  obtain ⟨he, h1, h2⟩ := h
  have key1 : ∀ k, k ≤ l.length → atOf key (l.take k) = min k e := by
    intro k
    induction k with
    | zero => intro _; simp [atOf]
    | succ k ih =>
      intro hk
      rw [atOf_take key l k (by omega)]
      by_cases hke : k < e
      · rw [if_neg (h1 k _ hke (List.getElem?_eq_getElem (by omega)))]; omega
      · rw [if_pos (h2 k _ (by omega) (List.getElem?_eq_getElem (by omega))), ih (by omega)]; omega
  have := key1 l.length (Nat.le_refl _)
  rw [List.take_length] at this
  omega
theorem parts_exists {key : ByteArray} {l : List Ver} (h : Ordd l) : Parts key l (atOf key l) := by
  have : ∀ k, k ≤ l.length → ∃ e, e ≤ k ∧ (∀ i x, i < e → l[i]? = some x → ¬ kLt key x.1) ∧ ∀ i x, e ≤ i → i < k → l[i]? = some x → kLt key x.1 := by
    intro k
    induction k with
    | zero => intro _; exact ⟨0, Nat.le_refl _, fun i x h => absurd h (by omega), fun i x _ h => absurd h (by omega)⟩
    | succ k ih =>
      intro hk
      obtain ⟨e, he, h1, h2⟩ := ih (by omega)
      have hx := List.getElem?_eq_getElem (l := l) (i := k) (by omega)
      by_cases hkx : kLt key (l[k]'(by omega)).1
      · refine ⟨e, by omega, h1, fun i x hi hik hix => ?_⟩
        by_cases e1 : i < k
        · exact h2 i x hi e1 hix
        · obtain rfl : i = k := by omega
          rw [hx] at hix; injection hix with hix; subst hix; exact hkx
      · refine ⟨k + 1, by omega, fun i x hi hix => ?_, fun i x hi hik => absurd hik (by omega)⟩
        by_cases e1 : i < k
        · intro hlt
          exact (h i k x _ hix hx e1).1 (by
            by_cases e2 : kLt (l[k]'(by omega)).1 x.1
            · exact e2
            · exact absurd (kLt_le hlt e2) hkx)
        · obtain rfl : i = k := by omega
          rw [hx] at hix; injection hix with hix; subst hix; exact hkx
  obtain ⟨e, he, h1, h2⟩ := this l.length (Nat.le_refl _)
  have hp : Parts key l e := ⟨he, h1, fun i x hi hix => h2 i x hi (List.getElem?_eq_some_iff.1 hix).1 hix⟩
  rw [parts_at hp]; exact hp
/-- the program's way: of the versions ahead of e only the last can be of the key and still stand -/
def closeI (key : ByteArray) (now : Int) (l : List Ver) (e : Nat) : List Ver := match e with
  | 0 => l
  | m + 1 => match l[m]? with
    | some x => l.set m (closeV key now x)
    | none => l
theorem close_same {key : ByteArray} {now : Int} {l : List Ver} {e : Nat} (hO : Ordd l) (hP : Parts key l e) : closeI key now l e = closeL key now l := by
  obtain ⟨he, h1, h2⟩ := hP
  apply List.ext_getElem?
  intro i
  have hne : ∀ x, l[i]? = some x → i + 1 ≠ e → closeV key now x = x := by
    intro x hx hi
    unfold closeV
    rw [if_neg]
    rintro ⟨e1, e2⟩
    by_cases h3 : i < e
    · have hlt : e - 1 < l.length := by omega
      have hy := List.getElem?_eq_getElem hlt
      obtain ⟨g1, g2⟩ := hO i (e - 1) x _ hx hy (by omega)
      have g3 := h1 (e - 1) _ (by omega) hy
      subst e1
      exact g2 (kLt_tri g3 g1).symm.symm e2
    · have := h2 i x (by omega) hx
      subst e1
      exact kLt_irrefl _ this
  unfold closeL
  rw [List.getElem?_map]
  cases e with
  | zero =>
    unfold closeI
    cases hx : l[i]? with
    | none => rfl
    | some x => rw [Option.map_some, hne x hx (by omega)]
  | succ m =>
    have hm := List.getElem?_eq_getElem (l := l) (i := m) (by omega)
    unfold closeI
    simp only [hm]
    by_cases him : i = m
    · subst him
      rw [List.getElem?_set_self (by omega), hm]; rfl
    · rw [List.getElem?_set_ne (by omega)]
      cases hx : l[i]? with
      | none => rfl
      | some x => rw [Option.map_some, hne x hx (by omega)]
theorem closeV_key (key : ByteArray) (now : Int) (x : Ver) : (closeV key now x).1 = x.1 := by unfold closeV; split <;> rfl
theorem closeV_to {key : ByteArray} {now : Int} {x : Ver} (hn : now ≠ 0) (h : x.1 = key) : (closeV key now x).2.2.2 ≠ 0 := by
  unfold closeV
  by_cases h2 : x.2.2.2 = 0
  · rw [if_pos ⟨h, h2⟩]; exact hn
  · rw [if_neg (fun e => h2 e.2)]; exact h2
theorem closeV_keep {key : ByteArray} {now : Int} {x : Ver} (hn : now ≠ 0) (h : x.2.2.2 ≠ 0) : (closeV key now x).2.2.2 ≠ 0 := by
  unfold closeV
  rw [if_neg (fun e => h e.2)]; exact h
theorem close_ordd {key : ByteArray} {now : Int} {l : List Ver} (hn : now ≠ 0) (h : Ordd l) : Ordd (closeL key now l) := by
  intro i j x y hx hy hij
  unfold closeL at hx hy
  rw [List.getElem?_map] at hx hy
  obtain ⟨x0, hx0, rfl⟩ := Option.map_eq_some_iff.1 hx
  obtain ⟨y0, hy0, rfl⟩ := Option.map_eq_some_iff.1 hy
  obtain ⟨g1, g2⟩ := h i j x0 y0 hx0 hy0 hij
  rw [closeV_key, closeV_key]
  exact ⟨g1, fun e => closeV_keep hn (g2 e)⟩
theorem close_parts {key : ByteArray} {now : Int} {l : List Ver} {e : Nat} (h : Parts key l e) : Parts key (closeL key now l) e := by
  obtain ⟨h0, h1, h2⟩ := h
  refine ⟨by unfold closeL; simpa using h0, fun i x hi hx => ?_, fun i x hi hx => ?_⟩
  all_goals
    unfold closeL at hx
    rw [List.getElem?_map] at hx
    obtain ⟨x0, hx0, rfl⟩ := Option.map_eq_some_iff.1 hx
    rw [closeV_key]
  · exact h1 i x0 hi hx0
  · exact h2 i x0 hi hx0
theorem ins_get (l : List Ver) (e : Nat) (he : e ≤ l.length) (v : Ver) (i : Nat) : (l.take e ++ v :: l.drop e)[i]? = if i < e then l[i]? else if i = e then some v else l[i - 1]? := by
  by_cases h : i < e
  · rw [if_pos h, List.getElem?_append_left (by rw [List.length_take]; omega), List.getElem?_take, if_pos h]
  · rw [if_neg h, List.getElem?_append_right (by rw [List.length_take]; omega), List.length_take, Nat.min_eq_left he]
    by_cases h2 : i = e
    · rw [if_pos h2, h2, Nat.sub_self]; rfl
    · rw [if_neg h2]
      obtain ⟨m, hm⟩ : ∃ m, i - e = m + 1 := ⟨i - e - 1, by omega⟩
      rw [hm, List.getElem?_cons_succ, List.getElem?_drop]
      congr 1; omega
theorem write_ordd {now : Int} {l : List Ver} {w : Wri} (hn : now ≠ 0) (h : Ordd l) : Ordd (writeS now l w) := by
  have hP := parts_exists (key := w.1) h
  have hO := close_ordd (key := w.1) hn h
  have hQ := close_parts (now := now) hP
  unfold writeS insV
  split
  · exact hO
  · have hT : ∀ i x, i < atOf w.1 l → (closeL w.1 now l)[i]? = some x → x.1 = w.1 → x.2.2.2 ≠ 0 := by
      intro i x _ hx e
      unfold closeL at hx
      rw [List.getElem?_map] at hx
      obtain ⟨x0, hx0, rfl⟩ := Option.map_eq_some_iff.1 hx
      rw [closeV_key] at e
      exact closeV_to hn e
    generalize closeL w.1 now l = c at *
    generalize atOf w.1 l = e at *
    obtain ⟨h0, h1, h2⟩ := hQ
    intro i j x y hx hy hij
    rw [ins_get c e h0] at hx hy
    by_cases i1 : i < e
    · rw [if_pos i1] at hx
      by_cases j1 : j < e
      · rw [if_pos j1] at hy
        exact hO i j x y hx hy hij
      · rw [if_neg j1] at hy
        by_cases j2 : j = e
        · rw [if_pos j2] at hy
          injection hy with hy; subst hy
          exact ⟨h1 i x i1 hx, fun e1 => hT i x i1 hx e1⟩
        · rw [if_neg j2] at hy
          exact hO i (j - 1) x y hx hy (by omega)
    · rw [if_neg i1] at hx
      have j1 : ¬ j < e := by omega
      have j2 : ¬ j = e := by omega
      rw [if_neg j1, if_neg j2] at hy
      by_cases i2 : i = e
      · rw [if_pos i2] at hx
        injection hx with hx; subst hx
        have := h2 (j - 1) y (by omega) hy
        exact ⟨kLt_asym this, fun e1 => absurd (show kLt w.1 y.1 from this) (by rw [← e1]; exact kLt_irrefl _)⟩
      · rw [if_neg i2] at hx
        exact hO (i - 1) (j - 1) x y hx hy (by omega)
theorem writeI_same {now : Int} {l : List Ver} {w : Wri} {e : Nat} (h : Ordd l) (hP : Parts w.1 l e) : insV (closeI w.1 now l e) e w now = writeS now l w := by
  unfold writeS; rw [close_same h hP, parts_at hP]
theorem closeL_len (key : ByteArray) (now : Int) (l : List Ver) : (closeL key now l).length = l.length := by simp [closeL]
theorem writeS_len (now : Int) (l : List Ver) (w : Wri) : (writeS now l w).length ≤ l.length + 1 := by
  unfold writeS insV
  split
  · rw [closeL_len]; omega
  · have := atOf_le w.1 l
    have h2 := closeL_len w.1 now l
    simp; omega
theorem writeS_fits {now : Int} {l : List Ver} {w : Wri} (hl : ∀ x ∈ l, x.1.size ≤ maxLen) (hw : w.1.size ≤ maxLen) : ∀ x ∈ writeS now l w, x.1.size ≤ maxLen := by
  have hc : ∀ x ∈ closeL w.1 now l, x.1.size ≤ maxLen := by
    intro x hx
    unfold closeL at hx
    obtain ⟨x0, h0, rfl⟩ := List.mem_map.1 hx
    rw [closeV_key]; exact hl x0 h0
  unfold writeS insV
  split
  · exact hc
  · intro x hx
    rw [List.mem_append, List.mem_cons] at hx
    rcases hx with hx | rfl | hx
    · exact hc x (List.mem_of_mem_take hx)
    · exact hw
    · exact hc x (List.mem_of_mem_drop hx)
/-- a right store is in order -/
theorem ordd_of {now : Int} {l : List Ver} (h : VersP now l) : Ordd l := by
  obtain ⟨_, _, h2, _⟩ := h
  have hstep : ∀ i x y, l[i]? = some x → l[i + 1]? = some y → ¬ kLt y.1 x.1 ∧ (x.1 = y.1 → x.2.2.2 ≠ 0) := by
    intro i x y hx hy
    have := h2 i (List.getElem?_eq_some_iff.1 hx).1 x y hx hy
    unfold aheadB at this
    by_cases e : x.1 = y.1
    · rw [if_neg (by simpa using e)] at this
      simp at this
      exact ⟨by rw [e]; exact kLt_irrefl _, fun _ => by omega⟩
    · rw [if_pos e] at this
      exact ⟨kLt_asym this, fun e' => absurd e' e⟩
  intro i j x y hx hy hij
  obtain ⟨d, rfl⟩ : ∃ d, j = i + 1 + d := ⟨j - i - 1, by omega⟩
  induction d generalizing y with
  | zero => exact hstep i x y hx hy
  | succ d ih =>
    have hlt : i + 1 + d < l.length := by
      have := (List.getElem?_eq_some_iff.1 hy).1
      omega
    have hz := List.getElem?_eq_getElem hlt
    obtain ⟨g1, g2⟩ := ih (l[i + 1 + d]) hz (by omega)
    obtain ⟨g3, g4⟩ := hstep (i + 1 + d) _ y hz hy
    refine ⟨fun hlt' => ?_, fun e => ?_⟩
    · exact g1 (kLe_lt g3 hlt')
    · refine g2 ?_
      by_cases e1 : kLt x.1 l[i + 1 + d].1
      · exact absurd (e ▸ e1 : kLt y.1 l[i + 1 + d].1) g3
      · exact kLt_tri e1 g1
end Go.Proofs.Ytpjkcmmmpgncmaa
