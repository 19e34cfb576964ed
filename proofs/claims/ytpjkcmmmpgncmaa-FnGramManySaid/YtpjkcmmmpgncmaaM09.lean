import Derived.Test.YtpjkcmmmpgncmaaRows
import Derived.Test.YtpjkcmmmpgncmaaM10
import Derived.Test.YtpjkcmmmpgncmaaM05
import Derived.Test.YtpjkcmmmpgncmaaM06
import Derived.Test.YtpjkcmmmpgncmaaM02
import Derived.Test.YtpjkcmmmpgncmaaRowS
import Derived.Lib.AppendZeros
import Derived.Deep.RegionWith
import Derived.Lib.SliceRun
import Derived.Lib.Walk
import Derived.Test.YtpjkcmmmpgncmaaM01
/- Plain words: what is done turns the rows from now on alone. Plain words: what stands under a key is the last write of the key. Plain words: the time at which something was done to a key last. Plain words: what was done at a time. -/
namespace Go.Proofs.Ytpjkcmmmpgncmaa
open Go.RowKit
theorem OwnR.reads {w : World} {B c n : Nat} {A : Option Addr} {l : List Row} (h : OwnR w B (.slice A n c) l) : Sl encRow 2 w A l := by
  obtain ⟨a1, a2, a3, _, _, a4⟩ := h.sl
  injection a3 with b1 b2 b3
  subst b1; exact a4
theorem OwnR.below {w w' : World} {B : Nat} {v : Value} {l : List Row} (h : OwnR w B v l) (hb : Below w.heap.size w w') : OwnR w' B v l := own_kept h hb
end Go.Proofs.Ytpjkcmmmpgncmaa
namespace Go.Proofs.Ytpjkcmmmpgncmaa
open Go.RowKit
theorem ascR_of {l : List Row} (h : l.Pairwise (fun a b => kLt a.1 b.1)) : ascR l = true := by
  apply ascR_yes
  intro i x y hi hx hy
  rw [List.pairwise_iff_getElem] at h
  obtain ⟨h1, rfl⟩ := List.getElem?_eq_some_iff.1 hx
  obtain ⟨h2, rfl⟩ := List.getElem?_eq_some_iff.1 hy
  exact h i (i + 1) h1 h2 (by omega)
end Go.Proofs.Ytpjkcmmmpgncmaa
namespace Go.Proofs.Ytpjkcmmmpgncmaa
open Go.RowKit
end Go.Proofs.Ytpjkcmmmpgncmaa
namespace Go.Proofs.Ytpjkcmmmpgncmaa
open Go.RowKit
end Go.Proofs.Ytpjkcmmmpgncmaa
/- The program's RowsCut and RowsPut: rows without a key; rows with a number under a key. -/
namespace Go.Proofs.Ytpjkcmmmpgncmaa
open Go.RowKit
theorem OwnR.le {w : World} {B B2 : Nat} {v : Value} {l : List Row} (h : OwnR w B v l) (hB : B2 ≤ B) : OwnR w B2 v l := Go.Joins.ownsRow_le h hB
section
variable {R : List Row} {K : ByteArray} {k : Nat}
end
theorem Sl.drop2 {w : World} {b o : Nat} {l : List Row} (h : Sl encRow 2 w (some ⟨b, o, none⟩) l) (k : Nat) : Sl encRow 2 w (some ⟨b, o + k * 2, none⟩) (l.drop k) := by
  intro hl
  rw [List.length_drop] at hl
  obtain ⟨b', o', he, hb, hc⟩ := h (by omega)
  simp at he
  obtain ⟨rfl, rfl⟩ := he
  refine ⟨b, o + k * 2, rfl, hb, fun i j x hx hj => ?_⟩
  rw [List.getElem?_drop] at hx
  rw [show o + k * 2 + i * 2 + j = o + (k + i) * 2 + j by omega]
  exact hc (k + i) j x hx hj
theorem Sl.nilR {w : World} {A : Option Addr} {l : List Row} (h : l.length = 0) : Sl encRow 2 w A l := fun h2 => by omega
theorem sl_hi {P : Program} (w : World) (t e : TypeId) (hu : P.underlying t = some (.slice e)) (i : TypeInfo) (hi : P.info? e = some i) (b o n c k : Nat) (hk : k ≤ c) :
    (Instr.sliceAt t (.slice (some ⟨b, o, none⟩) n c) none (some (.int .i64 (k : Int))) none).run P w = .ok (.slice (some ⟨b, o, none⟩) k c) w := by
  have h1 : (k : Int) ≤ (c : Int) := by omega
  have h0 : (0 : Int) ≤ (k : Int) := by omega
  have hz : (Go.sizeOf e).run P w = .ok i.size w := by simp [Go.sizeOf, typeInfo, hi]
  simp [Instr.sliceAt, Instr.slice, run_underlying hu, Instr.sliceBounds, run_sliceBound, h1, hz, Result.andThen, Addr.add]
theorem sl_lo {P : Program} (w : World) (t e : TypeId) (hu : P.underlying t = some (.slice e)) (i : TypeInfo) (hi : P.info? e = some i) (b o n c k : Nat) (l : Int) (hl : l = (k : Int)) (hk : k ≤ n) :
    (Instr.sliceAt t (.slice (some ⟨b, o, none⟩) n c) (some (.int .i64 l)) none none).run P w = .ok (.slice (if c = k then some ⟨b, o, none⟩ else some ⟨b, o + k * i.size, none⟩) (n - k) (c - k)) w := by
  subst hl
  have h1 : (k : Int) ≤ (n : Int) := by omega
  have h0 : (0 : Int) ≤ (k : Int) := by omega
  have hz : (Go.sizeOf e).run P w = .ok i.size w := by simp [Go.sizeOf, typeInfo, hi]
  simp [Instr.sliceAt, Instr.slice, run_underlying hu, Instr.sliceBounds, run_sliceBound, h1, hz, Result.andThen, Addr.add]
  by_cases h2 : k * i.size = 0
  · rw [if_pos h2, h2, Nat.add_zero]
  · rw [if_neg h2]
theorem rforms {w : World} {B c : Nat} {A : Option Addr} {R : List Row} (h : OwnR w B (.slice A R.length c) R) : (A = none ∧ R = [] ∧ c = 0) ∨ ∃ g, A = some ⟨g, 0, none⟩ ∧ R.length ≤ c ∧ c ≤ maxLen ∧ g < w.heap.size := by
  rcases h.2 with ⟨e, h0⟩ | ⟨g, cap, cur, e, _, hh, hn, hm, _⟩
  · injection e with e1 e2 e3
    exact .inl ⟨e1, List.eq_nil_of_length_eq_zero h0, e3⟩
  · injection e with e1 e2 e3
    subst e3
    exact .inr ⟨g, e1, hn, hm, by
      rcases Nat.lt_or_ge g w.heap.size with hlt | hge
      · exact hlt
      · rw [Array.getElem?_eq_none hge] at hh; cases hh⟩
theorem ownR_hi {w : World} {B c k : Nat} {A : Option Addr} {R : List Row} (h : OwnR w B (.slice A R.length c) R) (hk : k ≤ R.length) (W : World) :
    (Instr.sliceAt 68 (.slice A R.length c) none (some (.int .i64 (k : Int))) none).run Try.prog W = .ok (.slice A k c) W := by
  obtain ⟨i0, hi, hz0, hz1, hz2⟩ := info_parts infoRow
  rcases rforms h with ⟨rfl, rfl, rfl⟩ | ⟨g, rfl, hc1, _⟩
  · obtain rfl : k = 0 := by simpa using hk
    have hz : (Go.sizeOf 111).run Try.prog W = .ok i0.size W := by simp [Go.sizeOf, typeInfo, hi]
    simp [Instr.sliceAt, Instr.slice, run_underlying Try.underlying68, Instr.sliceBounds, run_sliceBound, hz, Result.andThen]
  · exact sl_hi W 68 111 Try.underlying68 i0 hi g 0 R.length c k (by omega)
theorem ownR_lo {w : World} {B c k : Nat} {A : Option Addr} {R : List Row} (h : OwnR w B (.slice A R.length c) R) (hk : k ≤ R.length) :
    ∃ A2, (∀ (W : World) (l : Int), l = (k : Int) → (Instr.sliceAt 68 (.slice A R.length c) (some (.int .i64 l)) none none).run Try.prog W = .ok (.slice A2 (R.length - k) (c - k)) W) ∧ Sl encRow 2 w A2 (R.drop k) := by
  obtain ⟨i0, hi, hz0, hz1, hz2⟩ := info_parts infoRow
  rcases rforms h with ⟨rfl, rfl, rfl⟩ | ⟨g, rfl, hc1, _⟩
  · obtain rfl : k = 0 := by simpa using hk
    refine ⟨none, fun W l hl => ?_, Sl.nilR (by simp)⟩
    subst hl
    have hz : (Go.sizeOf 111).run Try.prog W = .ok i0.size W := by simp [Go.sizeOf, typeInfo, hi]
    simp [Instr.sliceAt, Instr.slice, run_underlying Try.underlying68, Instr.sliceBounds, run_sliceBound, hz, Result.andThen]
  · refine ⟨_, fun W l hl => sl_lo W 68 111 Try.underlying68 i0 hi g 0 R.length c k l hl hk, ?_⟩
    rw [hz1]
    by_cases hkc : c = k
    · rw [if_pos hkc]; exact Sl.nilR (by rw [List.length_drop]; omega)
    · rw [if_neg hkc]
      have := (OwnR.reads h).drop2 k
      exact this
/-- what stands while a new row is made -/
def RP (w : World) (K : ByteArray) (n : Int) (v : Value) (m : List Row) (W : World) : Prop :=
  Blk W w.heap.size 111 #[.string K, .int .i64 n] ∧ OwnR W (w.heap.size + 1) v m ∧ Below w.heap.size w W
theorem RP.below {w : World} {K : ByteArray} {n : Int} {v : Value} {m : List Row} {W W' : World} (h : RP w K n v m W) (hb : Below W.heap.size W W') : RP w K n v m W' := ⟨h.1.kept hb, own_kept h.2.1 hb, bthen h.2.2 hb⟩
theorem RP.app {w : World} {K : ByteArray} {n : Int} {v v' : Value} {m m2 : List Row} {W W' : World} (h : RP w K n v m W) (hg : W.grownBy W' v.ownBlock) (ho : OwnR W' (w.heap.size + 1) v' m2) : RP w K n v' m2 W' := by
  obtain ⟨h1, h2, h3⟩ := h
  exact ⟨h1.grown hg (fun e => by have := (h2.lt _ e.symm).1; omega), ho, below_own h3 hg h3.size (fun j hj => by have := (h2.lt j hj).1; omega)⟩
def AscR (R : List Row) : Prop := R.Pairwise (fun a b => kLt a.1 b.1)
theorem ascP_of {R : List Row} (h : rowsB R = true) : AscR R := by
  have h2 := rows_asc (rowsB_asc h)
  unfold AscR
  rw [List.pairwise_iff_getElem]
  intro i j hi hj hij
  exact h2 j i _ _ hij (List.getElem?_eq_getElem hi) (List.getElem?_eq_getElem hj)
end Go.Proofs.Ytpjkcmmmpgncmaa
