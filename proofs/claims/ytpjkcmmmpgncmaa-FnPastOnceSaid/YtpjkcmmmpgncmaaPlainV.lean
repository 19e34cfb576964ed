/- Plain words: what is done turns the rows from now on alone. Plain words: what stands under a key is the last write of the key. Plain words: the time at which something was done to a key last. Plain words: what was done at a time. -/
import Derived.Test.YtpjkcmmmpgncmaaImplAt
import Derived.Test.YtpjkcmmmpgncmaaImplDo
import Derived.Test.YtpjkcmmmpgncmaaFoldP
import Derived.Test.YtpjkcmmmpgncmaaPastS
import Derived.Test.YtpjkcmmmpgncmaaRowS
namespace Go.Proofs.Ytpjkcmmmpgncmaa
open Go.RowKit
theorem vis_close {key : ByteArray} {now t : Int} (x : Ver) (h : t < now) : visB (closeV key now x) t = visB x t := by
  unfold closeV
  split
  · rename_i h2
    unfold visB
    simp [h2.2, h]
  · rfl
theorem row_close {key : ByteArray} {now : Int} (x : Ver) : rowOf (closeV key now x) = rowOf x := by
  unfold closeV
  split
  · rfl
  · rfl
theorem atL_close {key : ByteArray} {now t : Int} (h : t < now) (l : List Ver) : atL (closeL key now l) t = atL l t := by
  unfold atL closeL
  induction l with
  | nil => rfl
  | cons x l ih =>
    rw [List.map_cons, List.filter_cons, List.filter_cons, vis_close x h]
    split
    · rw [List.map_cons, List.map_cons, ih, row_close]
    · exact ih
theorem atL_ins {now t : Int} (h : t < now) (l : List Ver) (k : Nat) (w : Wri) : atL (insV l k w now) t = atL l t := by
  unfold insV
  split
  · rfl
  · conv => rhs; rw [← List.take_append_drop k l]
    unfold atL
    rw [List.filter_append, List.filter_append, List.filter_cons]
    have hv : visB (w.1, w.2.1, now, 0) t = false := by
      unfold visB
      have : ¬ now ≤ t := by omega
      simp [this]
    rw [hv]
    simp
theorem atL_write {now t : Int} (h : t < now) (l : List Ver) (w : Wri) : atL (writeS now l w) t = atL l t := by
  unfold writeS; rw [atL_ins h, atL_close h]
theorem atL_do {now t : Int} (h : t < now) : ∀ (ws : List Wri) (l : List Ver), atL (doS now l ws) t = atL l t := by
  intro ws
  unfold doS
  induction ws with
  | nil => intro l; rfl
  | cons w ws ih => intro l; rw [List.foldl_cons, ih, atL_write h]
theorem atL_next {now : Int} {l : List Ver} (h : versB now l = true) : atL l (now + 1) = atL l now := by
  unfold atL
  congr 1
  apply List.filter_congr
  intro x hx
  obtain ⟨i, hi⟩ := List.getElem?_of_mem hx
  have h2 := (versB_out h).2.1 i (List.getElem?_eq_some_iff.1 hi).1 x hi
  unfold verB at h2
  simp only [Bool.and_eq_true, Bool.or_eq_true, decide_eq_true_eq] at h2
  unfold visB
  rw [Bool.eq_iff_iff]
  simp only [Bool.and_eq_true, Bool.or_eq_true, decide_eq_true_eq]
  omega
theorem doV_ok {now nw : Int} {l L : List Ver} {ws : List Wri} (h : doV now l ws = ((nw, L), true)) : nw = now + 1 ∧ L = doS (now + 1) l ws ∧ versB now l = true ∧ versB (now + 1) (doS (now + 1) l ws) = true := by
  unfold doV at h
  split at h
  · rename_i h1
    split at h
    · split at h
      · rename_i h3
        simp only [Prod.mk.injEq, and_true] at h
        exact ⟨h.1.symm, h.2.symm, h1, h3⟩
      · simp at h
    · simp at h
  · simp at h
theorem doV_nil {now nw : Int} {l L : List Ver} (h : doV now l [] = ((nw, L), true)) : nw = now + 1 ∧ L = l ∧ versB now l = true ∧ versB (now + 1) l = true := doV_ok h
theorem OwnR.reads {w : World} {B c n : Nat} {A : Option Addr} {l : List Row} (h : OwnR w B (.slice A n c) l) : Sl encRow 2 w A l := by
  obtain ⟨a1, a2, a3, _, _, a4⟩ := h.sl
  injection a3 with b1 b2 b3
  subst b1; exact a4
theorem OwnR.below {w w' : World} {B : Nat} {v : Value} {l : List Row} (h : OwnR w B v l) (hb : Below w.heap.size w w') : OwnR w' B v l := own_kept h hb
theorem doV_len (now : Int) (l : List Ver) (ws : List Wri) : (doV now l ws).1.2.length ≤ l.length + ws.length := by
  unfold doV
  have := doS_len (now + 1) ws l
  split
  · split
    · split
      · exact this
      · exact Nat.le_add_right _ _
    · exact Nat.le_add_right _ _
  · exact Nat.zero_le _
end Go.Proofs.Ytpjkcmmmpgncmaa
namespace Go.Proofs.Ytpjkcmmmpgncmaa
open Go.RowKit
theorem verB_iff {x : Ver} {now : Int} : verB x now = true ↔ keyB x.1 = true ∧ numB x.2.1 = true ∧ 1 ≤ x.2.2.1 ∧ x.2.2.1 ≤ now ∧ (x.2.2.2 = 0 ∨ (x.2.2.1 < x.2.2.2 ∧ x.2.2.2 ≤ now)) := by
  unfold verB
  simp only [Bool.and_eq_true, Bool.or_eq_true, decide_eq_true_eq]
  constructor
  · rintro ⟨⟨⟨⟨h1, h2⟩, h3⟩, h4⟩, h5⟩; exact ⟨h1, h2, h3, h4, h5⟩
  · rintro ⟨h1, h2, h3, h4, h5⟩; exact ⟨⟨⟨⟨h1, h2⟩, h3⟩, h4⟩, h5⟩
theorem visB_iff {x : Ver} {t : Int} : visB x t = true ↔ x.2.2.1 ≤ t ∧ (x.2.2.2 = 0 ∨ t < x.2.2.2) := by
  unfold visB
  simp only [Bool.and_eq_true, Bool.or_eq_true, decide_eq_true_eq]
theorem versP_mem {now : Int} {l : List Ver} (h : VersP now l) {x : Ver} (hx : x ∈ l) : verB x now = true := by
  obtain ⟨i, hi⟩ := List.getElem?_of_mem hx
  exact h.2.1 i (List.getElem?_eq_some_iff.1 hi).1 x hi
def PairV (x y : Ver) : Prop := kLt x.1 y.1 ∨ (x.1 = y.1 ∧ x.2.2.2 ≠ 0 ∧ x.2.2.2 ≤ y.2.2.1)
theorem vers_pairs {now : Int} {l : List Ver} (h : VersP now l) : ∀ (j i : Nat) (x y : Ver), i < j → l[i]? = some x → l[j]? = some y → PairV x y := by
  intro j
  induction j with
  | zero => intro i x y h; omega
  | succ j ih =>
    intro i x y hij hx hy
    have hjl : j + 1 < l.length := (List.getElem?_eq_some_iff.1 hy).1
    obtain ⟨z, hz⟩ : ∃ z, l[j]? = some z := ⟨_, List.getElem?_eq_getElem (show j < l.length by omega)⟩
    have h3 : PairV z y := by
      have h4 := h.2.2.1 j (by omega) _ _ hz hy
      unfold aheadB at h4
      split at h4
      · exact .inl h4
      · rename_i hne
        simp only [Bool.and_eq_true, decide_eq_true_eq] at h4
        exact .inr ⟨by simpa using hne, by omega, h4.2⟩
    by_cases e : i = j
    · subst e; rw [hz] at hx; injection hx with hx; subst hx; exact h3
    · have h5 := ih i x _ (by omega) hx hz
      have hv := verB_iff.1 (h.2.1 j (by omega) _ hz)
      rcases h5 with h5 | ⟨h5, h6, h7⟩
      · rcases h3 with h3 | ⟨h3, h8, h9⟩
        · exact .inl (kLt_trans h5 h3)
        · exact .inl (h3 ▸ h5)
      · rcases h3 with h3 | ⟨h3, h8, h9⟩
        · exact .inl (h5 ▸ h3)
        · exact .inr ⟨h5.trans h3, h6, by omega⟩
theorem vers_pairwise {now : Int} {l : List Ver} (h : VersP now l) : l.Pairwise PairV := by
  rw [List.pairwise_iff_getElem]
  intro i j hi hj hij
  exact vers_pairs h j i _ _ hij (List.getElem?_eq_getElem hi) (List.getElem?_eq_getElem hj)
theorem atL_pairwise {now : Int} {l : List Ver} (h : VersP now l) (t : Int) : (atL l t).Pairwise (fun a b => kLt a.1 b.1) := by
  unfold atL
  refine List.Pairwise.map rowOf (R := fun a b : Ver => kLt a.1 b.1) (fun a b h => h) ?_
  refine List.Pairwise.imp_of_mem ?_ ((vers_pairwise h).filter _)
  intro a b ha hb hab
  have h1 := visB_iff.1 (List.mem_filter.1 ha).2
  have h2 := visB_iff.1 (List.mem_filter.1 hb).2
  rcases hab with h3 | ⟨h3, h4, h5⟩
  · exact h3
  · exfalso; omega
theorem ascR_of {l : List Row} (h : l.Pairwise (fun a b => kLt a.1 b.1)) : ascR l = true := by
  apply ascR_yes
  intro i x y hi hx hy
  rw [List.pairwise_iff_getElem] at h
  obtain ⟨h1, rfl⟩ := List.getElem?_eq_some_iff.1 hx
  obtain ⟨h2, rfl⟩ := List.getElem?_eq_some_iff.1 hy
  exact h i (i + 1) h1 h2 (by omega)
theorem rowsB_at {now : Int} {l : List Ver} (h : versB now l = true) {t : Int} (h0 : 0 ≤ t) (h1 : t ≤ now) : rowsB (atL l t) = true := by
  have hP := versB_out h
  unfold rowsB
  rw [decide_eq_true_eq]
  refine ⟨?_, ?_, ascR_of (atL_pairwise hP t)⟩
  · have := hP.2.2.2 t.toNat (by have := hP.1; omega) (by omega)
    rw [Int.toNat_of_nonneg h0] at this
    exact this
  · intro x hx
    unfold atL at hx
    obtain ⟨y, hy, rfl⟩ := List.mem_map.1 hx
    have := verB_iff.1 (versP_mem hP (List.mem_filter.1 hy).1)
    unfold rowB rowOf
    simp only [Bool.and_eq_true]
    exact ⟨this.1, this.2.1⟩
/-- the versions of a key that are visible at a time -/
def keyV (K : ByteArray) (t : Int) (l : List Ver) : List Ver := (l.filter (fun x => visB x t)).filter (fun x => decide (x.1 = K))
/-- the number under a key at a time -/
def valAt (K : ByteArray) (t : Int) (l : List Ver) : Option Int := (keyV K t l).head?.map (·.2.1)
def valO (o : Option Wri) : Option Int := match o with
  | some w => if w.2.2 then none else some w.2.1
  | none => none
theorem valAt_at (K : ByteArray) (t : Int) (l : List Ver) : valAt K t l = ((atL l t).find? (fun x => decide (x.1 = K))).map (·.2) := by
  unfold valAt keyV atL
  rw [List.head?_filter, List.find?_map, Option.map_map]
  rfl
theorem keyV_app (K : ByteArray) (t : Int) (a b : List Ver) : keyV K t (a ++ b) = keyV K t a ++ keyV K t b := by
  unfold keyV; rw [List.filter_append, List.filter_append]
theorem keyV_cons (K : ByteArray) (t : Int) (x : Ver) (l : List Ver) : keyV K t (x :: l) = (if x.1 = K ∧ visB x t = true then [x] else []) ++ keyV K t l := by
  unfold keyV
  rw [List.filter_cons]
  by_cases h1 : visB x t = true
  · rw [if_pos h1, List.filter_cons]
    by_cases h2 : x.1 = K
    · rw [if_pos (by simpa using h2), if_pos ⟨h2, h1⟩]; rfl
    · rw [if_neg (by simpa using h2), if_neg (fun h => h2 h.1)]; rfl
  · rw [if_neg h1, if_neg (fun h => h1 h.2)]; rfl
def OpV (K : ByteArray) (T : Int) (l : List Ver) : Prop := ∀ x ∈ l, x.1 = K → visB x T = true → x.2.2.2 = 0
theorem keyV_close_other {K k : ByteArray} {T : Int} (h : k ≠ K) (l : List Ver) : keyV K T (closeL k T l) = keyV K T l := by
  unfold closeL
  induction l with
  | nil => rfl
  | cons x l ih =>
    rw [List.map_cons, keyV_cons, keyV_cons, ih]
    congr 1
    unfold closeV
    by_cases h1 : x.1 = k ∧ x.2.2.2 = 0
    · rw [if_pos h1]
      have : x.1 ≠ K := by rw [h1.1]; exact h
      rw [if_neg (fun h => this h.1), if_neg (fun h => this h.1)]
    · rw [if_neg h1]
theorem keyV_close_same {K : ByteArray} {T : Int} (hT : T ≠ 0) {l : List Ver} (h : OpV K T l) : keyV K T (closeL K T l) = [] := by
  unfold closeL
  induction l with
  | nil => rfl
  | cons x l ih =>
    rw [List.map_cons, keyV_cons, ih (fun y hy => h y (by simp [hy]))]
    unfold closeV
    by_cases h1 : x.1 = K ∧ x.2.2.2 = 0
    · rw [if_pos h1]
      have : ¬ visB (x.1, x.2.1, x.2.2.1, T) T = true := by
        rw [visB_iff]; rintro ⟨_, h2 | h2⟩
        · exact hT h2
        · exact absurd h2 (Int.lt_irrefl _)
      rw [if_neg (fun h => this h.2)]; rfl
    · rw [if_neg h1, if_neg (fun h2 => h1 ⟨h2.1, h x (by simp) h2.1 h2.2⟩)]; rfl
theorem opV_close {K k : ByteArray} {T : Int} (hT : T ≠ 0) {l : List Ver} (h : OpV K T l) : OpV K T (closeL k T l) := by
  intro x hx h1 h2
  unfold closeL at hx
  obtain ⟨y, hy, rfl⟩ := List.mem_map.1 hx
  unfold closeV at h1 h2 ⊢
  by_cases h3 : y.1 = k ∧ y.2.2.2 = 0
  · rw [if_pos h3] at h2
    exfalso
    obtain ⟨_, h4 | h4⟩ := visB_iff.1 h2
    · exact hT h4
    · exact absurd h4 (Int.lt_irrefl _)
  · rw [if_neg h3] at h1 h2 ⊢
    exact h y hy h1 h2
theorem opV_write {K : ByteArray} {T : Int} (hT : T ≠ 0) {l : List Ver} (h : OpV K T l) (w : Wri) : OpV K T (writeS T l w) := by
  unfold writeS insV
  have h1 := opV_close (k := w.1) hT h
  split
  · exact h1
  · intro x hx h2 h3
    rcases List.mem_append.1 hx with h4 | h4
    · exact h1 x (List.mem_of_mem_take h4) h2 h3
    · rcases List.mem_cons.1 h4 with h5 | h5
      · rw [h5]
      · exact h1 x (List.mem_of_mem_drop h5) h2 h3
theorem valAt_write {K : ByteArray} {T : Int} (hT : T ≠ 0) {l : List Ver} (h : OpV K T l) (w : Wri) : valAt K T (writeS T l w) = if w.1 = K then valO (some w) else valAt K T l := by
  unfold writeS insV
  by_cases h1 : w.1 = K
  · rw [if_pos h1]
    have h2 := keyV_close_same hT h
    rw [← h1] at h2
    unfold valAt valO
    rw [← h1]
    cases hg : w.2.2
    · simp only [Bool.false_eq_true, if_false]
      have h3 : keyV w.1 T ((closeL w.1 T l).take (atOf w.1 l)) = [] ∧ keyV w.1 T ((closeL w.1 T l).drop (atOf w.1 l)) = [] := by
        rw [← List.take_append_drop (atOf w.1 l) (closeL w.1 T l), keyV_app] at h2
        exact List.append_eq_nil_iff.1 h2
      rw [keyV_app, keyV_cons, h3.1, h3.2, if_pos ⟨rfl, visB_iff.2 ⟨Int.le_refl _, .inl rfl⟩⟩, if_neg (by rw [hg]; simp)]
      rfl
    · simp only [if_true]
      rw [h2, if_pos hg]; rfl
  · rw [if_neg h1]
    unfold valAt
    have h2 := keyV_close_other h1 (T := T) l
    split
    · rw [h2]
    · rw [keyV_app, keyV_cons, if_neg (fun h => h1 h.1), List.nil_append, ← keyV_app, List.take_append_drop, h2]
theorem valAt_do {K : ByteArray} {T : Int} (hT : T ≠ 0) : ∀ (ws : List Wri) (l : List Ver) (o : Option Wri), OpV K T l → valAt K T l = valO o → valAt K T (doS T l ws) = valO (upd K o ws) := by
  intro ws
  unfold doS upd
  induction ws with
  | nil => intro l o _ h; exact h
  | cons w ws ih =>
    intro l o h1 h2
    rw [List.foldl_cons, List.foldl_cons]
    apply ih _ _ (opV_write hT h1 w)
    rw [valAt_write hT h1]
    split
    · rfl
    · exact h2
theorem opV_next {K : ByteArray} {now : Int} {l : List Ver} (h : versB now l = true) : OpV K (now + 1) l := by
  intro x hx _ h1
  have := verB_iff.1 (versP_mem (versB_out h) hx)
  have := visB_iff.1 h1
  omega
theorem goF_late : ∀ (rs : List (List Wri)) (now n : Int) (l L : List Ver), goF now l rs = ((n, L), true) → versB now l = true → n = now + rs.length ∧ versB n L = true ∧ ∀ t, t ≤ now → atL L t = atL l t := by
  intro rs
  induction rs with
  | nil =>
    intro now n l L h hv
    rw [goF_nil] at h
    simp only [Prod.mk.injEq, and_true] at h
    obtain ⟨rfl, rfl⟩ := h
    exact ⟨by simp, hv, fun t _ => rfl⟩
  | cons r rs ih =>
    intro now n l L h hv
    cases h1 : wrsB 20 r
    · rw [goF_row h1] at h; simp at h
    · cases h2 : versB (now + 1) (doS (now + 1) l r)
      · rw [goF_bad h1 h2] at h; simp at h
      · rw [goF_on h1 h2] at h
        obtain ⟨h3, h4, h5⟩ := ih _ _ _ _ h h2
        refine ⟨by rw [h3, List.length_cons]; push_cast; omega, h4, fun t ht => ?_⟩
        rw [h5 t (by omega), atL_do (by omega)]
theorem goF_last (K : ByteArray) : ∀ (rs : List (List Wri)) (now n : Int) (l L : List Ver) (o : Option Wri), goF now l rs = ((n, L), true) → versB now l = true → valAt K now l = valO o → ∀ t, now ≤ t → t ≤ n → valAt K t L = valO ((rs.take (t - now).toNat).foldl (upd K) o) := by
  intro rs
  induction rs with
  | nil =>
    intro now n l L o h hv ho t h0 h1
    rw [goF_nil] at h
    simp only [Prod.mk.injEq, and_true] at h
    obtain ⟨rfl, rfl⟩ := h
    obtain rfl : t = now := by omega
    rw [ho]; simp
  | cons r rs ih =>
    intro now n l L o h hv ho t h0 h1
    obtain ⟨_, _, hlate⟩ := goF_late _ _ _ _ _ h hv
    cases h2 : wrsB 20 r
    · rw [goF_row h2] at h; simp at h
    · cases h3 : versB (now + 1) (doS (now + 1) l r)
      · rw [goF_bad h2 h3] at h; simp at h
      · rw [goF_on h2 h3] at h
        by_cases ht : t = now
        · subst ht
          rw [valAt_at, hlate t (Int.le_refl _), ← valAt_at, ho]; simp
        · have hn0 := (versB_out hv).1.1
          have h4 : valAt K (now + 1) l = valO o := by rw [valAt_at, atL_next hv, ← valAt_at, ho]
          have h5 := ih _ _ _ _ _ h h3 (valAt_do (by omega) r l o (opV_next hv) h4) t (by omega) h1
          rw [h5, show (t - now).toNat = (t - (now + 1)).toNat + 1 by omega, List.take_succ_cons, List.foldl_cons]
theorem getR_val {R : List Row} (K : ByteArray) (h : rowsB R = true) {o : Option Int} (ho : (R.find? (fun x => decide (x.1 = K))).map (·.2) = o) : getR R K = (o.getD 0, o.isSome) := by
  unfold getR
  rw [if_pos h]
  subst ho
  cases hf : R.find? (fun x => decide (x.1 = K)) with
  | none => rfl
  | some x => rfl
theorem goF_getR (K : ByteArray) {rs : List (List Wri)} {n : Int} {L : List Ver} (h : goF 0 [] rs = ((n, L), true)) (hv : versB 0 [] = true) {t : Int} (h0 : 0 ≤ t) (h1 : t ≤ n) : getR (atL L t) K = ((valO (lastW K (rs.take t.toNat))).getD 0, (valO (lastW K (rs.take t.toNat))).isSome) := by
  have h2 := goF_last K rs 0 n [] L none h hv rfl t h0 h1
  obtain ⟨_, h4, _⟩ := goF_late _ _ _ _ _ h hv
  rw [Int.sub_zero] at h2
  exact getR_val K (rowsB_at h4 h0 h1) ((valAt_at K t L).symm.trans h2)
end Go.Proofs.Ytpjkcmmmpgncmaa
namespace Go.Proofs.Ytpjkcmmmpgncmaa
open Go.RowKit
def stepL (K : ByteArray) (m : Int) (x : Ver) : Int := if x.1 = K then max (max m x.2.2.1) x.2.2.2 else m
def lastV (K : ByteArray) (l : List Ver) : Int := l.foldl (stepL K) 0
theorem lastV_take {K : ByteArray} {l : List Ver} {k : Nat} (h : k < l.length) : lastV K (l.take (k + 1)) = stepL K (lastV K (l.take k)) l[k] := by
  unfold lastV; rw [List.take_succ_eq_append_getElem h, List.foldl_append]; rfl
theorem stepL_ge (K : ByteArray) (m : Int) (x : Ver) : m ≤ stepL K m x := by unfold stepL; split <;> omega
theorem foldL_ge (K : ByteArray) : ∀ (l : List Ver) (m : Int), m ≤ l.foldl (stepL K) m := by
  intro l
  induction l with
  | nil => intro m; exact Int.le_refl _
  | cons x l ih => intro m; rw [List.foldl_cons]; exact Int.le_trans (stepL_ge K m x) (ih _)
theorem foldL_mem {K : ByteArray} : ∀ (l : List Ver) (m : Int) (x : Ver), x ∈ l → x.1 = K → x.2.2.1 ≤ l.foldl (stepL K) m ∧ x.2.2.2 ≤ l.foldl (stepL K) m := by
  intro l
  induction l with
  | nil => intro m x h; simp at h
  | cons y l ih =>
    intro m x h hx
    rw [List.foldl_cons]
    rcases List.mem_cons.1 h with h | h
    · subst h
      have h1 := foldL_ge K l (stepL K m x)
      have h2 : stepL K m x = max (max m x.2.2.1) x.2.2.2 := if_pos hx
      omega
    · exact ih _ x h hx
theorem foldL_le {K : ByteArray} {B : Int} : ∀ (l : List Ver) (m : Int), m ≤ B → (∀ x ∈ l, x.1 = K → x.2.2.1 ≤ B ∧ x.2.2.2 ≤ B) → l.foldl (stepL K) m ≤ B := by
  intro l
  induction l with
  | nil => intro m h _; exact h
  | cons y l ih =>
    intro m h h2
    rw [List.foldl_cons]
    apply ih _ _ (fun x hx => h2 x (by simp [hx]))
    unfold stepL
    split
    · rename_i he
      have := h2 y (by simp) he
      omega
    · exact h
theorem foldL_filter {K : ByteArray} : ∀ (l : List Ver) (m : Int), l.foldl (stepL K) m = (l.filter (fun x => decide (x.1 = K))).foldl (stepL K) m := by
  intro l
  induction l with
  | nil => intro m; rfl
  | cons y l ih =>
    intro m
    rw [List.foldl_cons, List.filter_cons]
    split
    · rw [List.foldl_cons]; exact ih _
    · rename_i h
      rw [show stepL K m y = m from if_neg (by simpa using h)]
      exact ih _
def BndK (K : ByteArray) (T : Int) (l : List Ver) : Prop := ∀ x ∈ l, x.1 = K → x.2.2.1 ≤ T ∧ x.2.2.2 ≤ T
def HitK (K : ByteArray) (T : Int) (l : List Ver) : Prop := ∃ x ∈ l, x.1 = K ∧ (x.2.2.1 = T ∨ x.2.2.2 = T)
theorem lastV_hit {K : ByteArray} {T : Int} {l : List Ver} (hT : 0 ≤ T) (h : BndK K T l) (h2 : HitK K T l) : lastV K l = T := by
  have h1 : lastV K l ≤ T := foldL_le l 0 hT h
  obtain ⟨x, hx, he, ho⟩ := h2
  have h3 := foldL_mem l 0 x hx he
  unfold lastV at h1 ⊢
  omega
theorem ins_mem {l : List Ver} {k : Nat} {w : Wri} {T : Int} {x : Ver} (h : x ∈ l) : x ∈ insV l k w T := by
  unfold insV
  split
  · exact h
  · rw [← List.take_append_drop k l] at h
    rcases List.mem_append.1 h with h | h
    · exact List.mem_append_left _ h
    · exact List.mem_append_right _ (List.mem_cons_of_mem _ h)
theorem ins_out {l : List Ver} {k : Nat} {w : Wri} {T : Int} {x : Ver} (h : x ∈ insV l k w T) : x ∈ l ∨ (w.2.2 = false ∧ x = (w.1, w.2.1, T, 0)) := by
  unfold insV at h
  split at h
  · exact .inl h
  · rename_i hg
    rcases List.mem_append.1 h with h | h
    · exact .inl (List.mem_of_mem_take h)
    · rcases List.mem_cons.1 h with h | h
      · exact .inr ⟨by simpa using hg, h⟩
      · exact .inl (List.mem_of_mem_drop h)
theorem bnd_write {K : ByteArray} {T : Int} (hT : 0 ≤ T) {l : List Ver} (h : BndK K T l) (w : Wri) : BndK K T (writeS T l w) := by
  intro x hx he
  unfold writeS at hx
  rcases ins_out hx with h1 | ⟨_, rfl⟩
  · unfold closeL at h1
    obtain ⟨y, hy, rfl⟩ := List.mem_map.1 h1
    rw [closeV_key] at he
    have h2 := h y hy he
    unfold closeV
    split
    · exact ⟨h2.1, Int.le_refl _⟩
    · exact h2
  · exact ⟨Int.le_refl _, hT⟩
theorem hit_write {K : ByteArray} {T : Int} (_ : T ≠ 0) {l : List Ver} (h : HitK K T l) (w : Wri) : HitK K T (writeS T l w) := by
  obtain ⟨x, hx, he, ho⟩ := h
  refine ⟨closeV w.1 T x, ins_mem (List.mem_map_of_mem hx), by rw [closeV_key]; exact he, ?_⟩
  unfold closeV
  split
  · rename_i h1
    rcases ho with ho | ho
    · exact .inl ho
    · exact .inr rfl
  · exact ho
def hitW (K : ByteArray) (b : Bool) (ws : List Wri) : Bool := ws.any (fun w => decide (w.1 = K) && (b || !w.2.2))
theorem hitW_take {K : ByteArray} {b : Bool} {ws : List Wri} {k : Nat} (h : k < ws.length) : hitW K b (ws.take (k + 1)) = (hitW K b (ws.take k) || (decide (ws[k].1 = K) && (b || !ws[k].2.2))) := by
  unfold hitW; rw [List.take_succ_eq_append_getElem h, List.any_append]; simp
theorem filt_mem {K : ByteArray} {l l0 : List Ver} (h : l.filter (fun x => decide (x.1 = K)) = l0.filter (fun x => decide (x.1 = K))) {x : Ver} (hx : x ∈ l) (he : x.1 = K) : x ∈ l0 := by
  have : x ∈ l.filter (fun x => decide (x.1 = K)) := List.mem_filter.2 ⟨hx, by simpa using he⟩
  rw [h] at this
  exact (List.mem_filter.1 this).1
theorem filt_close {K : ByteArray} {T : Int} : ∀ {l : List Ver}, (∀ x ∈ l, x.1 = K → x.2.2.2 ≠ 0) → closeL K T l = l := by
  intro l
  unfold closeL
  induction l with
  | nil => intro _; rfl
  | cons x l ih =>
    intro h
    rw [List.map_cons, ih (fun y hy => h y (by simp [hy]))]
    congr 1
    unfold closeV
    rw [if_neg (fun h2 => h x (by simp) h2.1 h2.2)]
theorem filt_close_other {K k : ByteArray} {T : Int} (hk : k ≠ K) : ∀ (l : List Ver), (closeL k T l).filter (fun x => decide (x.1 = K)) = l.filter (fun x => decide (x.1 = K)) := by
  intro l
  unfold closeL
  induction l with
  | nil => rfl
  | cons x l ih =>
    rw [List.map_cons, List.filter_cons, List.filter_cons, ih, closeV_key]
    split
    · rename_i h1
      congr 1
      unfold closeV
      rw [if_neg (fun h2 => hk (h2.1.symm.trans (by simpa using h1)))]
    · rfl
theorem filt_ins {K : ByteArray} {T : Int} {l : List Ver} {k : Nat} {w : Wri} (h : w.1 ≠ K ∨ w.2.2 = true) : (insV l k w T).filter (fun x => decide (x.1 = K)) = l.filter (fun x => decide (x.1 = K)) := by
  unfold insV
  split
  · rfl
  · rename_i hg
    have hk : w.1 ≠ K := h.resolve_right hg
    conv => rhs; rw [← List.take_append_drop k l]
    rw [List.filter_append, List.filter_append, List.filter_cons, if_neg (by simpa using hk)]
/-- whether a key stands at a time -/
theorem had_iff {K : ByteArray} {now : Int} {l : List Ver} (hv : versB now l = true) : (valAt K now l).isSome = true ↔ ∃ x ∈ l, x.1 = K ∧ x.2.2.2 = 0 := by
  unfold valAt
  rw [Option.isSome_map]
  constructor
  · intro h
    obtain ⟨x, hx⟩ := Option.isSome_iff_exists.1 h
    have hm : x ∈ keyV K now l := List.mem_of_head? hx
    unfold keyV at hm
    obtain ⟨h1, h2⟩ := List.mem_filter.1 hm
    obtain ⟨h3, h4⟩ := List.mem_filter.1 h1
    have h5 := verB_iff.1 (versP_mem (versB_out hv) h3)
    have h6 := visB_iff.1 h4
    exact ⟨x, h3, by simpa using h2, by omega⟩
  · rintro ⟨x, hx, he, ho⟩
    have h5 := verB_iff.1 (versP_mem (versB_out hv) hx)
    have hm : x ∈ keyV K now l := by
      unfold keyV
      exact List.mem_filter.2 ⟨List.mem_filter.2 ⟨hx, visB_iff.2 ⟨h5.2.2.2.1, .inl ho⟩⟩, by simpa using he⟩
    cases hh : keyV K now l with
    | nil => rw [hh] at hm; simp at hm
    | cons y r => rfl
def StK (K : ByteArray) (T : Int) (l0 l : List Ver) (hit : Bool) : Prop := if hit = true then BndK K T l ∧ HitK K T l else l.filter (fun x => decide (x.1 = K)) = l0.filter (fun x => decide (x.1 = K))
theorem stK_step {K : ByteArray} {now : Int} {l0 l : List Ver} {hit : Bool} (hv : versB now l0 = true) (h : StK K (now + 1) l0 l hit) (w : Wri) : StK K (now + 1) l0 (writeS (now + 1) l w) (hit || (decide (w.1 = K) && ((valAt K now l0).isSome || !w.2.2))) := by
  have hn := (versB_out hv).1.1
  unfold StK at h ⊢
  cases hit with
  | true =>
    simp only [if_true, Bool.true_or] at h ⊢
    exact ⟨bnd_write (by omega) h.1 w, hit_write (by omega) h.2 w⟩
  | false =>
    simp only [Bool.false_or, Bool.false_eq_true, if_false] at h ⊢
    by_cases hk : w.1 = K
    · have hb : BndK K (now + 1) l := by
        intro x hx he
        have := verB_iff.1 (versP_mem (versB_out hv) (filt_mem h hx he))
        omega
      cases hg : w.2.2
      · rw [if_pos (by simp [hk])]
        refine ⟨bnd_write (by omega) hb w, (w.1, w.2.1, now + 1, 0), ?_, hk, .inl rfl⟩
        unfold writeS insV
        rw [if_neg (by rw [hg]; simp)]
        simp
      · cases hh : (valAt K now l0).isSome
        · rw [if_neg (by simp)]
          unfold writeS
          have hno : ∀ x ∈ l, x.1 = w.1 → x.2.2.2 ≠ 0 := by
            intro x hx he h0
            have := (had_iff (K := K) hv).2 ⟨x, filt_mem h hx (he.trans hk), he.trans hk, h0⟩
            rw [hh] at this; simp at this
          rw [filt_close hno, filt_ins (.inr hg)]
          exact h
        · rw [if_pos (by simp [hk])]
          obtain ⟨x, hx, he, h0⟩ := (had_iff (K := K) hv).1 hh
          have hxl : x ∈ l := filt_mem h.symm hx he
          refine ⟨bnd_write (by omega) hb w, closeV w.1 (now + 1) x, ins_mem (List.mem_map_of_mem hxl), by rw [closeV_key]; exact he, .inr ?_⟩
          unfold closeV
          rw [if_pos ⟨he.trans hk.symm, h0⟩]
    · rw [if_neg (by simp [hk])]
      unfold writeS
      rw [filt_ins (.inl hk), filt_close_other hk]
      exact h
theorem stK_do {K : ByteArray} {now : Int} {l0 : List Ver} (hv : versB now l0 = true) : ∀ (ws : List Wri) (l : List Ver) (hit : Bool), StK K (now + 1) l0 l hit → StK K (now + 1) l0 (doS (now + 1) l ws) (hit || hitW K (valAt K now l0).isSome ws) := by
  intro ws
  unfold doS hitW
  induction ws with
  | nil => intro l hit h; simpa using h
  | cons w ws ih =>
    intro l hit h
    rw [List.foldl_cons, List.any_cons, ← Bool.or_assoc]
    exact ih _ _ (stK_step hv h w)
theorem lastV_do {K : ByteArray} {now : Int} {l : List Ver} (hv : versB now l = true) (ws : List Wri) : lastV K (doS (now + 1) l ws) = if hitW K (valAt K now l).isSome ws = true then now + 1 else lastV K l := by
  have hn := (versB_out hv).1.1
  have h := stK_do hv ws l false (show StK K (now + 1) l l false from rfl)
  rw [Bool.false_or] at h
  unfold StK at h
  split
  · rename_i h1
    rw [if_pos h1] at h
    exact lastV_hit (by omega) h.1 h.2
  · rename_i h1
    rw [if_neg h1] at h
    unfold lastV
    rw [foldL_filter, h, ← foldL_filter]
theorem getR_had {K : ByteArray} {now : Int} {l : List Ver} (hv : versB now l = true) : (getR (atL l now) K).2 = (valAt K now l).isSome := by
  have hn := (versB_out hv).1.1
  rw [getR_val K (rowsB_at hv hn (Int.le_refl _)) (valAt_at K now l).symm]
theorem lastV_nonneg (K : ByteArray) (l : List Ver) : 0 ≤ lastV K l := foldL_ge K l 0
theorem lastV_le_now {K : ByteArray} {now : Int} {l : List Ver} (hv : versB now l = true) : lastV K l ≤ now :=
  foldL_le l 0 (versB_out hv).1.1 (fun x hx _ => by have := verB_iff.1 (versP_mem (versB_out hv) hx); omega)
end Go.Proofs.Ytpjkcmmmpgncmaa
namespace Go.Proofs.Ytpjkcmmmpgncmaa
open Go.RowKit
def begB (l : List Ver) (key : ByteArray) (t : Int) : Bool := l.any (fun x => decide (x.1 = key) && decide (x.2.2.1 = t))
theorem begB_take {l : List Ver} {key : ByteArray} {t : Int} {k : Nat} (h : k < l.length) : begB (l.take (k + 1)) key t = (begB (l.take k) key t || (decide (l[k].1 = key) && decide (l[k].2.2.1 = t))) := by
  unfold begB; rw [List.take_succ_eq_append_getElem h, List.any_append]; simp
theorem begB_hit {l : List Ver} {key : ByteArray} {t : Int} {x : Ver} (h : x ∈ l) (h1 : x.1 = key) (h2 : x.2.2.1 = t) : begB l key t = true := by
  unfold begB; rw [List.any_eq_true]; exact ⟨x, h, by simp [h1, h2]⟩
theorem begB_iff {l : List Ver} {key : ByteArray} {t : Int} : begB l key t = true ↔ ∃ x ∈ l, x.1 = key ∧ x.2.2.1 = t := by
  unfold begB; rw [List.any_eq_true]; simp
def one8 (l : List Ver) (t : Int) (x : Ver) : List Wri := (if x.2.2.1 = t then [(x.1, x.2.1, false)] else []) ++ (if x.2.2.2 = t ∧ begB l x.1 t = false then [(x.1, 0, true)] else [])
theorem one8_no {l : List Ver} {t : Int} {x : Ver} (h : ¬ (x.2.2.2 = t ∧ begB l x.1 t = false)) : one8 l t x = (if x.2.2.1 = t then [(x.1, x.2.1, false)] else []) := by
  unfold one8; rw [if_neg h, List.append_nil]
theorem one8_yes {l : List Ver} {t : Int} {x : Ver} (h : x.2.2.2 = t ∧ begB l x.1 t = false) : one8 l t x = (if x.2.2.1 = t then [(x.1, x.2.1, false)] else []) ++ [(x.1, 0, true)] := by
  unfold one8; rw [if_pos h]
def l8L (l : List Ver) (t : Int) : List Wri := l.flatMap (one8 l t)
theorem flat_take {α β : Type} {l : List α} (f : α → List β) {k : Nat} (h : k < l.length) : (l.take (k + 1)).flatMap f = (l.take k).flatMap f ++ f l[k] := by
  rw [List.take_succ_eq_append_getElem h, List.flatMap_append]; simp
theorem one8_key {l : List Ver} {t : Int} {x : Ver} {w : Wri} (h : w ∈ one8 l t x) : w.1 = x.1 := by
  unfold one8 at h
  rcases List.mem_append.1 h with h | h
  · split at h
    · simp at h; rw [h]
    · simp at h
  · split at h
    · simp at h; rw [h]
    · simp at h
theorem one8_le {l : List Ver} {t : Int} (x : Ver) (hx : x.2.2.2 ≠ x.2.2.1) : (one8 l t x).length ≤ 1 := by
  unfold one8
  by_cases h1 : x.2.2.1 = t
  · rw [if_pos h1, if_neg (fun h => hx (h.1.trans h1.symm))]; simp
  · rw [if_neg h1]; split <;> simp
/-- what a key's write of a time is -/
def doneW (l : List Ver) (t : Int) (K : ByteArray) : Option Wri :=
  match l.find? (fun x => decide (x.1 = K) && decide (x.2.2.1 = t)) with
  | some x => some (x.1, x.2.1, false)
  | none => if l.any (fun x => decide (x.1 = K) && decide (x.2.2.2 = t)) = true then some (K, 0, true) else none
/-- writes of one time come in order, each key once -/
theorem l8L_asc {now : Int} {l : List Ver} (h : VersP now l) (t : Int) : (l8L l t).Pairwise (fun a b => kLt a.1 b.1) := by
  have h1 := vers_pairwise h
  have h2 : ∀ x ∈ l, verB x now = true := fun x hx => versP_mem h hx
  have key : ∀ (m : List Ver), (∀ x ∈ m, x ∈ l) → m.Pairwise PairV → (m.flatMap (one8 l t)).Pairwise (fun a b => kLt a.1 b.1) := by
    intro m
    induction m with
    | nil => intro _ _; exact List.Pairwise.nil
    | cons x m ih =>
      intro hm hp
      rw [List.flatMap_cons, List.pairwise_append]
      rw [List.pairwise_cons] at hp
      have hv := verB_iff.1 (h2 x (hm x (by simp)))
      refine ⟨?_, ih (fun y hy => hm y (by simp [hy])) hp.2, ?_⟩
      · have h3 := one8_le (l := l) (t := t) x (by omega)
        match hq : one8 l t x, h3 with
        | [], _ => exact List.Pairwise.nil
        | [a], _ => simp
        | a :: b :: r, h3 => simp at h3
      · intro a ha b hb
        obtain ⟨y, hy, hby⟩ := List.mem_flatMap.1 hb
        rw [one8_key ha, one8_key hby]
        rcases hp.1 y hy with h4 | ⟨h4, h5, h6⟩
        · exact h4
        · exfalso
          have hvy := verB_iff.1 (h2 y (hm y (by simp [hy])))
          unfold one8 at ha hby
          rcases List.mem_append.1 ha with ha | ha
          · split at ha
            · rename_i e1
              rcases List.mem_append.1 hby with hb2 | hb2
              · split at hb2
                · omega
                · simp at hb2
              · split at hb2
                · rename_i e2
                  have := begB_hit (hm x (by simp)) h4 e1
                  rw [e2.2] at this; cases this
                · simp at hb2
            · simp at ha
          · split at ha
            · rename_i e1
              rcases List.mem_append.1 hby with hb2 | hb2
              · split at hb2
                · rename_i e2
                  have := begB_hit (hm y (by simp [hy])) h4.symm e2
                  rw [e1.2] at this; cases this
                · simp at hb2
              · split at hb2
                · rename_i e2
                  omega
                · simp at hb2
            · simp at ha
  exact key l (fun x hx => hx) h1
theorem l8L_mem {l : List Ver} {t : Int} {w : Wri} : w ∈ l8L l t ↔ (∃ x ∈ l, x.2.2.1 = t ∧ w = (x.1, x.2.1, false)) ∨ (∃ x ∈ l, x.2.2.2 = t ∧ begB l x.1 t = false ∧ w = (x.1, 0, true)) := by
  unfold l8L
  rw [List.mem_flatMap]
  constructor
  · rintro ⟨x, hx, hw⟩
    unfold one8 at hw
    rcases List.mem_append.1 hw with h | h
    · split at h
      · rename_i e; simp at h; exact .inl ⟨x, hx, e, h⟩
      · simp at h
    · split at h
      · rename_i e; simp at h; exact .inr ⟨x, hx, e.1, e.2, h⟩
      · simp at h
  · rintro (⟨x, hx, e, rfl⟩ | ⟨x, hx, e1, e2, rfl⟩)
    · exact ⟨x, hx, List.mem_append_left _ (by rw [if_pos e]; simp)⟩
    · exact ⟨x, hx, List.mem_append_right _ (by rw [if_pos ⟨e1, e2⟩]; simp)⟩
/-- two lists in order that hold the same are one -/
theorem asc_ext {α : Type} {R : α → α → Prop} (hirr : ∀ a, ¬ R a a) (hasym : ∀ a b, R a b → ¬ R b a) : ∀ (a b : List α), a.Pairwise R → b.Pairwise R → (∀ x, x ∈ a ↔ x ∈ b) → a = b := by
  intro a
  induction a with
  | nil =>
    intro b _ _ h
    cases b with
    | nil => rfl
    | cons y b => have := (h y).2 (by simp); simp at this
  | cons x a ih =>
    intro b ha hb h
    cases b with
    | nil => have := (h x).1 (by simp); simp at this
    | cons y b =>
      rw [List.pairwise_cons] at ha hb
      have hxy : x = y := by
        rcases List.mem_cons.1 ((h x).1 (by simp)) with e | e
        · exact e
        · rcases List.mem_cons.1 ((h y).2 (by simp)) with e2 | e2
          · exact e2.symm
          · exact absurd (ha.1 y e2) (hasym _ _ (hb.1 x e))
      subst hxy
      congr 1
      refine ih b ha.2 hb.2 (fun z => ?_)
      constructor
      · intro hz
        rcases List.mem_cons.1 ((h z).1 (by simp [hz])) with e | e
        · subst e; exact absurd (ha.1 z hz) (hirr _)
        · exact e
      · intro hz
        rcases List.mem_cons.1 ((h z).2 (by simp [hz])) with e | e
        · subst e; exact absurd (hb.1 z hz) (hirr _)
        · exact e
end Go.Proofs.Ytpjkcmmmpgncmaa
