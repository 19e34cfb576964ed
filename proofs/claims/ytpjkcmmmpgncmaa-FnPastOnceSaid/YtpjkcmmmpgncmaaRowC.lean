/- The program's RowsCut and RowsPut: rows without a key; rows with a number under a key. -/
import Derived.Test.YtpjkcmmmpgncmaaRowS
import Derived.Test.YtpjkcmmmpgncmaaAppB
import Derived.Test.YtpjkcmmmpgncmaaPlainV
import Derived.Test.YtpjkcmmmpgncmaaDrawB
import Derived.Lib.AppendZeros
import Derived.Deep.RegionWith
import Derived.Lib.SliceRun
import Derived.Lib.Walk
namespace Go.Proofs.Ytpjkcmmmpgncmaa
open Go.RowKit
theorem OwnR.le {w : World} {B B2 : Nat} {v : Value} {l : List Row} (h : OwnR w B v l) (hB : B2 ≤ B) : OwnR w B2 v l := Go.Joins.ownsRow_le h hB
abbrev Rrow : Type := Option Addr × Nat × List Row
def encRrow (x : Rrow) : List Value := [.slice x.1 x.2.2.length x.2.1]
theorem encRrow_len (x : Rrow) : (encRrow x).length = 1 := rfl
def lenR (ps : List Rrow) : Nat := (ps.map (fun r => r.2.2.length)).sum
theorem lenR_take (ps : List Rrow) (k : Nat) (h : k < ps.length) : lenR (ps.take (k + 1)) = lenR (ps.take k) + ps[k].2.2.length := by
  unfold lenR; rw [List.take_succ_eq_append_getElem h, List.map_append, List.sum_append]; simp
theorem lenR_le (ps : List Rrow) (k : Nat) : lenR (ps.take k) ≤ lenR ps := by
  have e : lenR ps = lenR (ps.take k) + lenR (ps.drop k) := by
    unfold lenR; rw [← List.sum_append, ← List.map_append, List.take_append_drop]
  omega
def allR (ps : List Rrow) : List Row := ps.flatMap (·.2.2)
theorem allR_len (ps : List Rrow) : (allR ps).length = lenR ps := by
  unfold allR lenR; rw [List.length_flatMap]
theorem allR_take {ps : List Rrow} {k : Nat} (h : k < ps.length) : allR (ps.take (k + 1)) = allR (ps.take k) ++ ps[k].2.2 := by
  unfold allR; rw [List.take_succ_eq_append_getElem h, List.flatMap_append]; simp
theorem mem_takeI {α : Type} {l : List α} {k : Nat} {x : α} (h : x ∈ l.take k) : ∃ i, i < k ∧ l[i]? = some x := by
  obtain ⟨i, hi⟩ := List.getElem?_of_mem h
  rw [List.getElem?_take] at hi
  split at hi
  · exact ⟨i, by assumption, hi⟩
  · cases hi
theorem mem_dropI {α : Type} {l : List α} {k : Nat} {x : α} (h : x ∈ l.drop k) : ∃ i, k ≤ i ∧ l[i]? = some x := by
  obtain ⟨i, hi⟩ := List.getElem?_of_mem h
  rw [List.getElem?_drop] at hi
  exact ⟨k + i, by omega, hi⟩
def cutR (R : List Row) (K : ByteArray) : List Row := R.filter (fun x => !decide (x.1 = K))
def putR (R : List Row) (K : ByteArray) (n : Int) : List Row := R.filter (fun x => decide (kLt x.1 K)) ++ [(K, n)] ++ R.filter (fun x => decide (kLt K x.1))
theorem filter_yes {α : Type} {p : α → Bool} {l : List α} (h : ∀ x ∈ l, p x = true) : l.filter p = l := List.filter_eq_self.2 h
theorem filter_no {α : Type} {p : α → Bool} {l : List α} (h : ∀ x ∈ l, p x = false) : l.filter p = [] := List.filter_eq_nil_iff.2 (fun x hx => by rw [h x hx]; simp)
section
variable {R : List Row} {K : ByteArray} {k : Nat}
theorem atR_lo (h : AtR K R k) : ∀ x ∈ R.take k, kLt x.1 K := fun x hx => by
  obtain ⟨i, h1, h2⟩ := mem_takeI hx
  exact h.2.1 i x h1 h2
theorem atR_hi (ha : ascR R = true) (hf : Found K R k) : ∀ x ∈ R.drop (k + 1), kLt K x.1 := fun x hx => by
  obtain ⟨i, h1, h2⟩ := mem_dropI hx
  obtain ⟨y, h3, rfl⟩ := hf
  exact rows_asc ha i k y x (by omega) h3 h2
theorem atR_hi' (ha : ascR R = true) (h : AtR K R k) (hf : ¬ Found K R k) : ∀ x ∈ R.drop k, kLt K x.1 := fun x hx => by
  obtain ⟨i, h1, h2⟩ := mem_dropI hx
  have h3 := h.2.2 i x h1 h2
  by_cases h4 : kLt K x.1
  · exact h4
  · exfalso
    have h5 := kLt_tri h3 h4
    by_cases h6 : i = k
    · subst h6; exact hf ⟨x, h2, h5⟩
    · have hkl : k < R.length := by have := (List.getElem?_eq_some_iff.1 h2).1; omega
      have hz := List.getElem?_eq_getElem hkl
      have h7 := rows_asc ha i k _ x (by omega) hz h2
      rw [h5] at h7
      exact h.2.2 k _ (Nat.le_refl _) hz h7
theorem found_cons (hf : Found K R k) : ∃ x : Row, R.drop k = x :: R.drop (k + 1) ∧ x.1 = K := by
  obtain ⟨x, h1, h2⟩ := hf
  obtain ⟨h3, h4⟩ := List.getElem?_eq_some_iff.1 h1
  exact ⟨x, by rw [List.drop_eq_getElem_cons h3, h4], h2⟩
theorem kne_lt {a b : ByteArray} (h : kLt a b) : a ≠ b := fun e => by subst e; exact kLt_irrefl _ h
theorem cut_found (ha : ascR R = true) (h : AtR K R k) (hf : Found K R k) : R.take k ++ R.drop (k + 1) = cutR R K := by
  obtain ⟨x, h1, h2⟩ := found_cons hf
  have e : cutR R K = cutR (R.take k ++ R.drop k) K := by rw [List.take_append_drop]
  rw [e, h1]
  unfold cutR
  rw [List.filter_append, filter_yes (fun x hx => by simp [kne_lt (atR_lo h x hx)]), List.filter_cons_of_neg (by simp [h2]), filter_yes (fun x hx => by simp [Ne.symm (kne_lt (atR_hi ha hf x hx))])]
theorem cut_not (ha : ascR R = true) (h : AtR K R k) (hf : ¬ Found K R k) : R = cutR R K := by
  have e : cutR R K = cutR (R.take k ++ R.drop k) K := by rw [List.take_append_drop]
  rw [e]
  unfold cutR
  rw [List.filter_append, filter_yes (fun x hx => by simp [kne_lt (atR_lo h x hx)]), filter_yes (fun x hx => by simp [Ne.symm (kne_lt (atR_hi' ha h hf x hx))]), List.take_append_drop]
theorem put_lo (h : AtR K R k) : R.filter (fun x => decide (kLt x.1 K)) = R.take k := by
  have e : R.filter (fun x => decide (kLt x.1 K)) = (R.take k ++ R.drop k).filter (fun x => decide (kLt x.1 K)) := by rw [List.take_append_drop]
  rw [e, List.filter_append, filter_yes (fun x hx => by simp [atR_lo h x hx]), filter_no (fun x hx => ?_), List.append_nil]
  obtain ⟨i, h1, h2⟩ := mem_dropI hx
  simp [h.2.2 i x h1 h2]
theorem put_hi (ha : ascR R = true) (h : AtR K R k) (hf : Found K R k) : R.filter (fun x => decide (kLt K x.1)) = R.drop (k + 1) := by
  obtain ⟨x, h1, h2⟩ := found_cons hf
  have e : R.filter (fun x => decide (kLt K x.1)) = (R.take k ++ R.drop k).filter (fun x => decide (kLt K x.1)) := by rw [List.take_append_drop]
  rw [e, h1, List.filter_append, filter_no (fun x hx => by simp [kLt_asym (atR_lo h x hx)]), List.filter_cons_of_neg (by rw [h2]; simp [kLt_irrefl]), filter_yes (fun x hx => by simp [atR_hi ha hf x hx]), List.nil_append]
theorem put_hi' (ha : ascR R = true) (h : AtR K R k) (hf : ¬ Found K R k) : R.filter (fun x => decide (kLt K x.1)) = R.drop k := by
  have e : R.filter (fun x => decide (kLt K x.1)) = (R.take k ++ R.drop k).filter (fun x => decide (kLt K x.1)) := by rw [List.take_append_drop]
  rw [e, List.filter_append, filter_no (fun x hx => by simp [kLt_asym (atR_lo h x hx)]), filter_yes (fun x hx => by simp [atR_hi' ha h hf x hx]), List.nil_append]
end
theorem Sl.drop2 {w : World} {b o : Nat} {l : List Row} (h : Sl encRow 2 w (some ⟨b, o, none⟩) l) (k : Nat) : Sl encRow 2 w (some ⟨b, o + k * 2, none⟩) (l.drop k) := by
  intro hl
  rw [List.length_drop] at hl
  obtain ⟨b', o', he, hb, hc⟩ := h (by omega)
  simp at he
  obtain ⟨rfl, rfl⟩ := he
  refine ⟨b, o + k * 2, rfl, hb, fun i j x hx hj => ?_⟩
  rw [List.getElem?_drop] at hx
  rw [show o + k * 2 + i * 2 + j = o + (k + i) * 2 + j by omega]
  exact hc (k + i) j x hx hj
theorem Sl.nilR {w : World} {A : Option Addr} {l : List Row} (h : l.length = 0) : Sl encRow 2 w A l := fun h2 => by omega
theorem sl_hi {P : Program} (w : World) (t e : TypeId) (hu : P.underlying t = some (.slice e)) (i : TypeInfo) (hi : P.info? e = some i) (b o n c k : Nat) (hk : k ≤ c) :
    (Instr.sliceAt t (.slice (some ⟨b, o, none⟩) n c) none (some (.int .i64 (k : Int))) none).run P w = .ok (.slice (some ⟨b, o, none⟩) k c) w := by
  have h1 : (k : Int) ≤ (c : Int) := by omega
  have h0 : (0 : Int) ≤ (k : Int) := by omega
  have hz : (Go.sizeOf e).run P w = .ok i.size w := by simp [Go.sizeOf, typeInfo, hi]
  simp [Instr.sliceAt, Instr.slice, run_underlying hu, Instr.sliceBounds, run_sliceBound, h1, hz, Result.andThen, Addr.add]
theorem sl_lo {P : Program} (w : World) (t e : TypeId) (hu : P.underlying t = some (.slice e)) (i : TypeInfo) (hi : P.info? e = some i) (b o n c k : Nat) (l : Int) (hl : l = (k : Int)) (hk : k ≤ n) :
    (Instr.sliceAt t (.slice (some ⟨b, o, none⟩) n c) (some (.int .i64 l)) none none).run P w = .ok (.slice (if c = k then some ⟨b, o, none⟩ else some ⟨b, o + k * i.size, none⟩) (n - k) (c - k)) w := by
  subst hl
  have h1 : (k : Int) ≤ (n : Int) := by omega
  have h0 : (0 : Int) ≤ (k : Int) := by omega
  have hz : (Go.sizeOf e).run P w = .ok i.size w := by simp [Go.sizeOf, typeInfo, hi]
  simp [Instr.sliceAt, Instr.slice, run_underlying hu, Instr.sliceBounds, run_sliceBound, h1, hz, Result.andThen, Addr.add]
  by_cases h2 : k * i.size = 0
  · rw [if_pos h2, h2, Nat.add_zero]
  · rw [if_neg h2]
theorem rforms {w : World} {B c : Nat} {A : Option Addr} {R : List Row} (h : OwnR w B (.slice A R.length c) R) : (A = none ∧ R = [] ∧ c = 0) ∨ ∃ g, A = some ⟨g, 0, none⟩ ∧ R.length ≤ c ∧ c ≤ maxLen ∧ g < w.heap.size := by
  rcases h.2 with ⟨e, h0⟩ | ⟨g, cap, cur, e, _, hh, hn, hm, _⟩
  · injection e with e1 e2 e3
    exact .inl ⟨e1, List.eq_nil_of_length_eq_zero h0, e3⟩
  · injection e with e1 e2 e3
    subst e3
    exact .inr ⟨g, e1, hn, hm, by
      rcases Nat.lt_or_ge g w.heap.size with hlt | hge
      · exact hlt
      · rw [Array.getElem?_eq_none hge] at hh; cases hh⟩
theorem slp_two {w : World} {g : Nat} {r s : Rrow} (h : Blk w g 68 #[.slice r.1 r.2.2.length r.2.1, .slice s.1 s.2.2.length s.2.1]) : Sl encRrow 1 w (some ⟨g, 0, none⟩) [r, s] := by
  intro _
  refine ⟨g, 0, rfl, h.lt, fun i j y hy hj => ?_⟩
  obtain rfl : j = 0 := by omega
  match i with
  | 0 => simp at hy; subst hy; simp only [Nat.zero_mul, Nat.zero_add]; rw [h.cell]; rfl
  | 1 => simp at hy; subst hy; simp only [Nat.one_mul, Nat.zero_add, Nat.add_zero]; rw [h.cell]; rfl
  | i + 2 => simp at hy
theorem ownR_hi {w : World} {B c k : Nat} {A : Option Addr} {R : List Row} (h : OwnR w B (.slice A R.length c) R) (hk : k ≤ R.length) (W : World) :
    (Instr.sliceAt 68 (.slice A R.length c) none (some (.int .i64 (k : Int))) none).run Try.prog W = .ok (.slice A k c) W := by
  obtain ⟨i0, hi, hz0, hz1, hz2⟩ := info_parts infoRow
  rcases rforms h with ⟨rfl, rfl, rfl⟩ | ⟨g, rfl, hc1, _⟩
  · obtain rfl : k = 0 := by simpa using hk
    have hz : (Go.sizeOf 111).run Try.prog W = .ok i0.size W := by simp [Go.sizeOf, typeInfo, hi]
    simp [Instr.sliceAt, Instr.slice, run_underlying Try.underlying68, Instr.sliceBounds, run_sliceBound, hz, Result.andThen]
  · exact sl_hi W 68 111 Try.underlying68 i0 hi g 0 R.length c k (by omega)
theorem ownR_lo {w : World} {B c k : Nat} {A : Option Addr} {R : List Row} (h : OwnR w B (.slice A R.length c) R) (hk : k ≤ R.length) :
    ∃ A2, (∀ (W : World) (l : Int), l = (k : Int) → (Instr.sliceAt 68 (.slice A R.length c) (some (.int .i64 l)) none none).run Try.prog W = .ok (.slice A2 (R.length - k) (c - k)) W) ∧ Sl encRow 2 w A2 (R.drop k) := by
  obtain ⟨i0, hi, hz0, hz1, hz2⟩ := info_parts infoRow
  rcases rforms h with ⟨rfl, rfl, rfl⟩ | ⟨g, rfl, hc1, _⟩
  · obtain rfl : k = 0 := by simpa using hk
    refine ⟨none, fun W l hl => ?_, Sl.nilR (by simp)⟩
    subst hl
    have hz : (Go.sizeOf 111).run Try.prog W = .ok i0.size W := by simp [Go.sizeOf, typeInfo, hi]
    simp [Instr.sliceAt, Instr.slice, run_underlying Try.underlying68, Instr.sliceBounds, run_sliceBound, hz, Result.andThen]
  · refine ⟨_, fun W l hl => sl_lo W 68 111 Try.underlying68 i0 hi g 0 R.length c k l hl hk, ?_⟩
    rw [hz1]
    by_cases hkc : c = k
    · rw [if_pos hkc]; exact Sl.nilR (by rw [List.length_drop]; omega)
    · rw [if_neg hkc]
      have := (OwnR.reads h).drop2 k
      exact this
/-- what stands while a new row is made -/
def RP (w : World) (K : ByteArray) (n : Int) (v : Value) (m : List Row) (W : World) : Prop :=
  Blk W w.heap.size 111 #[.string K, .int .i64 n] ∧ OwnR W (w.heap.size + 1) v m ∧ Below w.heap.size w W
theorem RP.below {w : World} {K : ByteArray} {n : Int} {v : Value} {m : List Row} {W W' : World} (h : RP w K n v m W) (hb : Below W.heap.size W W') : RP w K n v m W' := ⟨h.1.kept hb, own_kept h.2.1 hb, bthen h.2.2 hb⟩
theorem RP.app {w : World} {K : ByteArray} {n : Int} {v v' : Value} {m m2 : List Row} {W W' : World} (h : RP w K n v m W) (hg : W.grownBy W' v.ownBlock) (ho : OwnR W' (w.heap.size + 1) v' m2) : RP w K n v' m2 W' := by
  obtain ⟨h1, h2, h3⟩ := h
  exact ⟨h1.grown hg (fun e => by have := (h2.lt _ e.symm).1; omega), ho, below_own h3 hg h3.size (fun j hj => by have := (h2.lt j hj).1; omega)⟩
/-- the number under a key, if there is one -/
def lookR (R : List Row) (K : ByteArray) : Option Int := (R.find? (fun x => decide (x.1 = K))).map (·.2)
def AscR (R : List Row) : Prop := R.Pairwise (fun a b => kLt a.1 b.1)
theorem ascP_of {R : List Row} (h : rowsB R = true) : AscR R := by
  have h2 := rows_asc (rowsB_asc h)
  unfold AscR
  rw [List.pairwise_iff_getElem]
  intro i j hi hj hij
  exact h2 j i _ _ hij (List.getElem?_eq_getElem hi) (List.getElem?_eq_getElem hj)
theorem look_mem {R : List Row} (h : AscR R) {x : Row} : x ∈ R ↔ lookR R x.1 = some x.2 := by
  unfold lookR
  induction R with
  | nil => simp
  | cons y r ih =>
    obtain ⟨h1, h2⟩ := List.pairwise_cons.1 h
    by_cases e : y.1 = x.1
    · rw [List.find?_cons_of_pos (by simp [e])]
      simp only [Option.map_some, Option.some.injEq]
      constructor
      · intro hx
        rcases List.mem_cons.1 hx with rfl | hx
        · rfl
        · exact absurd (h1 x hx) (by rw [e]; exact kLt_irrefl _)
      · intro he
        exact List.mem_cons.2 (.inl (Prod.ext e.symm he.symm))
    · rw [List.find?_cons_of_neg (by simp [e]), ← ih h2, List.mem_cons]
      constructor
      · rintro (rfl | hx)
        · exact absurd rfl e
        · exact hx
      · exact .inr
theorem look_ext {R S : List Row} (h : AscR R) (h2 : AscR S) (he : ∀ K, lookR R K = lookR S K) : R = S :=
  asc_ext (R := fun a b : Row => kLt a.1 b.1) (fun a => kLt_irrefl _) (fun a b hab => kLt_asym hab) R S h h2 (fun x => by rw [look_mem h, look_mem h2, he])
theorem asc_cut {R : List Row} (h : AscR R) (K : ByteArray) : AscR (cutR R K) := List.Pairwise.filter _ h
theorem look_cut (R : List Row) (k K : ByteArray) : lookR (cutR R k) K = if k = K then none else lookR R K := by
  unfold lookR cutR
  induction R with
  | nil => simp
  | cons y r ih =>
    by_cases h1 : y.1 = k
    · rw [List.filter_cons_of_neg (by simp [h1]), ih]
      by_cases h2 : k = K
      · rw [if_pos h2, if_pos h2]
      · rw [if_neg h2, if_neg h2, List.find?_cons_of_neg (by simp [h1, h2])]
    · rw [List.filter_cons_of_pos (by simp [h1])]
      by_cases h2 : y.1 = K
      · have h3 : k ≠ K := fun e => h1 (by rw [e, h2])
        rw [if_neg h3, List.find?_cons_of_pos (by simp [h2]), List.find?_cons_of_pos (by simp [h2])]
      · rw [List.find?_cons_of_neg (by simp [h2]), List.find?_cons_of_neg (by simp [h2]), ih]
theorem asc_put {R : List Row} (h : AscR R) (K : ByteArray) (n : Int) : AscR (putR R K n) := by
  unfold AscR putR
  refine List.pairwise_append.2 ⟨List.pairwise_append.2 ⟨List.Pairwise.filter _ h, List.pairwise_singleton _ _, ?_⟩, List.Pairwise.filter _ h, ?_⟩
  · intro a ha b hb
    simp only [List.mem_filter, decide_eq_true_eq] at ha
    simp only [List.mem_singleton] at hb
    subst hb; exact ha.2
  · intro a ha b hb
    simp only [List.mem_append, List.mem_filter, decide_eq_true_eq, List.mem_singleton] at ha hb
    rcases ha with ⟨_, ha⟩ | rfl
    · exact kLt_trans ha hb.2
    · exact hb.2
theorem look_filter (R : List Row) (p : Row → Bool) (K : ByteArray) (hp : ∀ x : Row, x.1 = K → p x = true) : lookR (R.filter p) K = lookR R K := by
  unfold lookR
  induction R with
  | nil => simp
  | cons y r ih =>
    by_cases h2 : y.1 = K
    · rw [List.filter_cons_of_pos (hp y h2), List.find?_cons_of_pos (by simp [h2]), List.find?_cons_of_pos (by simp [h2])]
    · rw [List.find?_cons_of_neg (by simp [h2])]
      by_cases h1 : p y = true
      · rw [List.filter_cons_of_pos h1, List.find?_cons_of_neg (by simp [h2]), ih]
      · rw [List.filter_cons_of_neg h1, ih]
theorem look_none (R : List Row) (p : Row → Bool) (K : ByteArray) (hp : ∀ x : Row, x.1 = K → p x = false) : lookR (R.filter p) K = none := by
  unfold lookR
  rw [Option.map_eq_none_iff, List.find?_eq_none]
  intro x hx
  have := (List.mem_filter.1 hx).2
  intro e
  rw [hp x (by simpa using e)] at this
  cases this
theorem look_app (a b : List Row) (K : ByteArray) : lookR (a ++ b) K = (lookR a K).or (lookR b K) := by
  unfold lookR
  rw [List.find?_append]
  cases a.find? (fun x => decide (x.1 = K)) <;> simp
theorem look_put (R : List Row) (k : ByteArray) (n : Int) (K : ByteArray) : lookR (putR R k n) K = if k = K then some n else lookR R K := by
  unfold putR
  rw [look_app, look_app]
  by_cases h : k = K
  · subst h
    rw [if_pos rfl, look_none R _ k (fun x hx => by rw [hx]; simp [kLt_irrefl])]
    simp [lookR]
  · rw [if_neg h]
    have h1 : lookR [(k, n)] K = none := by unfold lookR; simp [h]
    rw [h1]
    by_cases h2 : kLt K k
    · rw [look_filter R _ K (fun x hx => by rw [hx]; simp [h2]), look_none R _ K (fun x hx => by rw [hx]; simp [kLt_asym h2])]
      simp
    · have h3 : kLt k K := by
        by_cases h4 : kLt k K
        · exact h4
        · exact absurd (kLt_tri h4 h2) h
      rw [look_none R _ K (fun x hx => by rw [hx]; simp [kLt_asym h3]), look_filter R _ K (fun x hx => by rw [hx]; simp [h3])]
      simp
/-- rows whose keys are among another's are no more than these -/
theorem asc_le : ∀ (b a : List Row), AscR a → AscR b → (∀ x ∈ a, ∃ y ∈ b, y.1 = x.1) → a.length ≤ b.length
  | [], a, _, _, h => by
    cases a with
    | nil => simp
    | cons x r => obtain ⟨y, hy, _⟩ := h x (by simp); simp at hy
  | y :: b, [], _, _, _ => by simp
  | y :: b, x :: a, ha, hb, h => by
    obtain ⟨ha1, ha2⟩ := List.pairwise_cons.1 ha
    obtain ⟨hb1, hb2⟩ := List.pairwise_cons.1 hb
    have hyx : y.1 = x.1 ∨ kLt y.1 x.1 := by
      obtain ⟨z, hz, e⟩ := h x (by simp)
      rcases List.mem_cons.1 hz with rfl | hz
      · exact .inl e
      · exact .inr (by rw [← e]; exact hb1 z hz)
    have := asc_le b a ha2 hb2 (fun u hu => by
      obtain ⟨z, hz, e⟩ := h u (by simp [hu])
      rcases List.mem_cons.1 hz with rfl | hz
      · have h3 := ha1 u hu
        rw [← e] at h3
        rcases hyx with h4 | h4
        · rw [h4] at h3; exact absurd h3 (kLt_irrefl _)
        · exact absurd (kLt_trans h3 h4) (kLt_irrefl _)
      · exact ⟨z, hz, e⟩)
    simp only [List.length_cons]
    omega
end Go.Proofs.Ytpjkcmmmpgncmaa
