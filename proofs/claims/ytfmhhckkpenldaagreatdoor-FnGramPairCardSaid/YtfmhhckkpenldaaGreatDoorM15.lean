import Derived.Lib.AppendZeros
import Derived.Deep.RegionWith
import Derived.Lib.SliceRun
import Derived.Lib.Walk
import Derived.Test.YtfmhhckkpenldaaGreatDoorM16
import Derived.Test.YtfmhhckkpenldaaGreatDoorM10
import Derived.Test.YtfmhhckkpenldaaGreatDoorM12
import Derived.BigQuiet
import Derived.Test.YtfmhhckkpenldaaGreatDoorVerS
/- The program's RowsCut and RowsPut: rows without a key; rows with a number under a key. -/
namespace Go.Proofs.YtfmhhckkpenldaaGreatDoor
open Go.RowKit
theorem OwnR.le {w : World} {B B2 : Nat} {v : Value} {l : List Row} (h : OwnR w B v l) (hB : B2 ≤ B) : OwnR w B2 v l := Go.Joins.ownsRow_le h hB
section
variable {R : List Row} {K : ByteArray} {k : Nat}
end
theorem Sl.drop2 {w : World} {b o : Nat} {l : List Row} (h : Sl encRow 2 w (some ⟨b, o, none⟩) l) (k : Nat) : Sl encRow 2 w (some ⟨b, o + k * 2, none⟩) (l.drop k) := by
  intro hl
  rw [List.length_drop] at hl
  obtain ⟨b', o', he, hb, hc⟩ := h (by omega)
  simp at he
  obtain ⟨rfl, rfl⟩ := he
  refine ⟨b, o + k * 2, rfl, hb, fun i j x hx hj => ?_⟩
  rw [List.getElem?_drop] at hx
  rw [show o + k * 2 + i * 2 + j = o + (k + i) * 2 + j by omega]
  exact hc (k + i) j x hx hj
theorem Sl.nilR {w : World} {A : Option Addr} {l : List Row} (h : l.length = 0) : Sl encRow 2 w A l := fun h2 => by omega
theorem sl_hi {P : Program} (w : World) (t e : TypeId) (hu : P.underlying t = some (.slice e)) (i : TypeInfo) (hi : P.info? e = some i) (b o n c k : Nat) (hk : k ≤ c) :
    (Instr.sliceAt t (.slice (some ⟨b, o, none⟩) n c) none (some (.int .i64 (k : Int))) none).run P w = .ok (.slice (some ⟨b, o, none⟩) k c) w := by
  have h1 : (k : Int) ≤ (c : Int) := by omega
  have h0 : (0 : Int) ≤ (k : Int) := by omega
  have hz : (Go.sizeOf e).run P w = .ok i.size w := by simp [Go.sizeOf, typeInfo, hi]
  simp [Instr.sliceAt, Instr.slice, run_underlying hu, Instr.sliceBounds, run_sliceBound, h1, hz, Result.andThen, Addr.add]
theorem sl_lo {P : Program} (w : World) (t e : TypeId) (hu : P.underlying t = some (.slice e)) (i : TypeInfo) (hi : P.info? e = some i) (b o n c k : Nat) (l : Int) (hl : l = (k : Int)) (hk : k ≤ n) :
    (Instr.sliceAt t (.slice (some ⟨b, o, none⟩) n c) (some (.int .i64 l)) none none).run P w = .ok (.slice (if c = k then some ⟨b, o, none⟩ else some ⟨b, o + k * i.size, none⟩) (n - k) (c - k)) w := by
  subst hl
  have h1 : (k : Int) ≤ (n : Int) := by omega
  have h0 : (0 : Int) ≤ (k : Int) := by omega
  have hz : (Go.sizeOf e).run P w = .ok i.size w := by simp [Go.sizeOf, typeInfo, hi]
  simp [Instr.sliceAt, Instr.slice, run_underlying hu, Instr.sliceBounds, run_sliceBound, h1, hz, Result.andThen, Addr.add]
  by_cases h2 : k * i.size = 0
  · rw [if_pos h2, h2, Nat.add_zero]
  · rw [if_neg h2]
theorem rforms {w : World} {B c : Nat} {A : Option Addr} {R : List Row} (h : OwnR w B (.slice A R.length c) R) : (A = none ∧ R = [] ∧ c = 0) ∨ ∃ g, A = some ⟨g, 0, none⟩ ∧ R.length ≤ c ∧ c ≤ maxLen ∧ g < w.heap.size := by
  rcases h.2 with ⟨e, h0⟩ | ⟨g, cap, cur, e, _, hh, hn, hm, _⟩
  · injection e with e1 e2 e3
    exact .inl ⟨e1, List.eq_nil_of_length_eq_zero h0, e3⟩
  · injection e with e1 e2 e3
    subst e3
    exact .inr ⟨g, e1, hn, hm, by
      rcases Nat.lt_or_ge g w.heap.size with hlt | hge
      · exact hlt
      · rw [Array.getElem?_eq_none hge] at hh; cases hh⟩
theorem ownR_hi {w : World} {B c k : Nat} {A : Option Addr} {R : List Row} (h : OwnR w B (.slice A R.length c) R) (hk : k ≤ R.length) (W : World) :
    (Instr.sliceAt 63 (.slice A R.length c) none (some (.int .i64 (k : Int))) none).run Tryz.prog W = .ok (.slice A k c) W := by
  obtain ⟨i0, hi, hz0, hz1, hz2⟩ := info_parts infoRow
  rcases rforms h with ⟨rfl, rfl, rfl⟩ | ⟨g, rfl, hc1, _⟩
  · obtain rfl : k = 0 := by simpa using hk
    have hz : (Go.sizeOf 83).run Tryz.prog W = .ok i0.size W := by simp [Go.sizeOf, typeInfo, hi]
    simp [Instr.sliceAt, Instr.slice, run_underlying Tryz.underlying63, Instr.sliceBounds, run_sliceBound, hz, Result.andThen]
  · exact sl_hi W 63 83 Tryz.underlying63 i0 hi g 0 R.length c k (by omega)
theorem ownR_lo {w : World} {B c k : Nat} {A : Option Addr} {R : List Row} (h : OwnR w B (.slice A R.length c) R) (hk : k ≤ R.length) :
    ∃ A2, (∀ (W : World) (l : Int), l = (k : Int) → (Instr.sliceAt 63 (.slice A R.length c) (some (.int .i64 l)) none none).run Tryz.prog W = .ok (.slice A2 (R.length - k) (c - k)) W) ∧ Sl encRow 2 w A2 (R.drop k) := by
  obtain ⟨i0, hi, hz0, hz1, hz2⟩ := info_parts infoRow
  rcases rforms h with ⟨rfl, rfl, rfl⟩ | ⟨g, rfl, hc1, _⟩
  · obtain rfl : k = 0 := by simpa using hk
    refine ⟨none, fun W l hl => ?_, Sl.nilR (by simp)⟩
    subst hl
    have hz : (Go.sizeOf 83).run Tryz.prog W = .ok i0.size W := by simp [Go.sizeOf, typeInfo, hi]
    simp [Instr.sliceAt, Instr.slice, run_underlying Tryz.underlying63, Instr.sliceBounds, run_sliceBound, hz, Result.andThen]
  · refine ⟨_, fun W l hl => sl_lo W 63 83 Tryz.underlying63 i0 hi g 0 R.length c k l hl hk, ?_⟩
    rw [hz1]
    by_cases hkc : c = k
    · rw [if_pos hkc]; exact Sl.nilR (by rw [List.length_drop]; omega)
    · rw [if_neg hkc]
      have := (OwnR.reads h).drop2 k
      exact this
/-- what stands while a new row is made -/
def RP (w : World) (K : ByteArray) (n : Int) (v : Value) (m : List Row) (W : World) : Prop :=
  Blk W w.heap.size 83 #[.string K, .int .i64 n] ∧ OwnR W (w.heap.size + 1) v m ∧ Below w.heap.size w W
theorem RP.below {w : World} {K : ByteArray} {n : Int} {v : Value} {m : List Row} {W W' : World} (h : RP w K n v m W) (hb : Below W.heap.size W W') : RP w K n v m W' := ⟨h.1.kept hb, own_kept h.2.1 hb, bthen h.2.2 hb⟩
theorem RP.app {w : World} {K : ByteArray} {n : Int} {v v' : Value} {m m2 : List Row} {W W' : World} (h : RP w K n v m W) (hg : W.grownBy W' v.ownBlock) (ho : OwnR W' (w.heap.size + 1) v' m2) : RP w K n v' m2 W' := by
  obtain ⟨h1, h2, h3⟩ := h
  exact ⟨h1.grown hg (fun e => by have := (h2.lt _ e.symm).1; omega), ho, below_own h3 hg h3.size (fun j hj => by have := (h2.lt j hj).1; omega)⟩
def AscR (R : List Row) : Prop := R.Pairwise (fun a b => kLt a.1 b.1)
theorem ascP_of {R : List Row} (h : rowsB R = true) : AscR R := by
  have h2 := rows_asc (rowsB_asc h)
  unfold AscR
  rw [List.pairwise_iff_getElem]
  intro i j hi hj hij
  exact h2 j i _ _ hij (List.getElem?_eq_getElem hi) (List.getElem?_eq_getElem hj)
end Go.Proofs.YtfmhhckkpenldaaGreatDoor
/- The reference on rows: RowsOk, l1Find, l1Copy, RowsGet. -/
namespace Go.Proofs.YtfmhhckkpenldaaGreatDoor
open Go.RowKit
theorem rowsB_iffT {R : List Row} : rowsB R = true ↔ R.length ≤ 10 ∧ (∀ x ∈ R, rowB x = true) ∧ AscR R := by
  constructor
  · intro h
    refine ⟨?_, ?_, ascP_of h⟩
    · unfold rowsB at h; rw [decide_eq_true_eq] at h; exact h.1
    · unfold rowsB at h; rw [decide_eq_true_eq] at h; exact h.2.1
  · rintro ⟨h1, h2, h3⟩
    unfold rowsB
    rw [decide_eq_true_eq]
    exact ⟨h1, h2, ascR_of h3⟩
def okToR (l : List Row) (k : Nat) : Prop := ∀ j, j < k → ∀ z, l[j]? = some z → rowB z = true ∧ ∀ y, 0 < j → l[j - 1]? = some y → ltB y.1 z.1 = true
theorem rowsB_badT {l : List Row} {k : Nat} {x : Row} (hx : l[k]? = some x) (h : rowB x = false) : rowsB l = false := by
  rw [Bool.eq_false_iff]; intro h2
  have := (rowsB_iffT.1 h2).2.1 x (List.mem_of_getElem? hx)
  rw [h] at this; cases this
theorem rowsB_orderT {l : List Row} {m : Nat} {x y : Row} (hy : l[m]? = some y) (hx : l[m + 1]? = some x) (h : ltB y.1 x.1 = false) : rowsB l = false := by
  rw [Bool.eq_false_iff]; intro h2
  have h3 := (rowsB_iffT.1 h2).2.2
  obtain ⟨h4, e4⟩ := List.getElem?_eq_some_iff.1 hy
  obtain ⟨h5, e5⟩ := List.getElem?_eq_some_iff.1 hx
  have h6 := List.pairwise_iff_getElem.1 h3 m (m + 1) h4 h5 (by omega)
  rw [e4, e5] at h6
  have h7 : ltB y.1 x.1 = true := h6
  rw [h] at h7; cases h7
theorem pair_next {l : List Row} (h : ∀ (i : Nat) (x y : Row), l[i]? = some x → l[i + 1]? = some y → kLt x.1 y.1) : AscR l := by
  have h4 : ∀ (j i : Nat) (x y : Row), i < j → l[i]? = some x → l[j]? = some y → kLt x.1 y.1 := by
    intro j
    induction j with
    | zero => intro i x y hij; omega
    | succ j ih =>
      intro i x y hij hx hy
      by_cases e : i = j
      · subst e; exact h i x y hx hy
      · have hj : j < l.length := by have := (List.getElem?_eq_some_iff.1 hy).1; omega
        exact kLt_trans (ih i x _ (by omega) hx (List.getElem?_eq_getElem hj)) (h j _ y (List.getElem?_eq_getElem hj) hy)
  unfold AscR
  rw [List.pairwise_iff_getElem]
  intro i j hi hj hij
  exact h4 j i _ _ hij (List.getElem?_eq_getElem hi) (List.getElem?_eq_getElem hj)
theorem rowsB_endT {l : List Row} (h : okToR l l.length) : rowsB l = decide (l.length ≤ 10) := by
  rw [Bool.eq_iff_iff, rowsB_iffT]
  simp only [decide_eq_true_eq]
  refine ⟨fun h2 => h2.1, fun h2 => ⟨h2, fun x hx => ?_, pair_next (fun i x y h3 h4 => ?_)⟩⟩
  · obtain ⟨j, hj⟩ := List.getElem?_of_mem hx
    exact (h j (List.getElem?_eq_some_iff.1 hj).1 x hj).1
  · exact (h (i + 1) (List.getElem?_eq_some_iff.1 h4).1 y h4).2 x (by omega) (by simpa using h3)
set_option maxRecDepth 100000 in
set_option maxHeartbeats 4000000 in
theorem specRowsOk_any (A : Option Addr) (l : List Row) (c : Nat) (w : World) (hf : ∀ x ∈ l, x.1.size ≤ maxLen) (hn : l.length ≤ 1048576) (hR : Sl encRow 2 w A l) :
    Calls Tryz.prog 104 #[.slice A l.length c] w fun e w' => e = .returned (.bool (rowsB l)) ∧ Below w.heap.size w w' := by
  go_enter Tryz.func104, Tryz.ntmps104
  go_wp2
  go_loopw [3] (fun i wr => ∃ k : Nat, k ≤ l.length ∧ i = .int .i64 k ∧ okToR l k ∧ Below w.heap.size w wr) (fun i _ => l.length - (intOf i).toNat)
  case atStart => exact ⟨0, by omega, rfl, fun j h => absurd h (by omega), Below.refl _ _⟩
  case round =>
    obtain ⟨k, hk, rfl, hok, hb⟩ := hrel
    have HOK := Lib.hid hok
    clear hok
    by_cases hlt : k < l.length
    · obtain ⟨b, o, rfl, hbl, c0, c1⟩ := Sl.at2 (hR.below hb) hlt
      have hx := hf _ (List.getElem_mem hlt)
      have HX := Lib.hid (List.getElem?_eq_getElem hlt)
      generalize l[k] = x at *
      have HK := Lib.hid (fun w0 : World => (specKeyOk_any x.1 w0 hx).mono (R' := fun e w' => e = .returned (.bool (keyB x.1)) ∧ Below w0.heap.size w0 w') (fun e w' h => by obtain ⟨h1, rfl⟩ := h; exact ⟨h1, Below.refl _ _⟩))
      have HN := Lib.hid (fun w0 : World => (specNumOk_any x.2 w0).mono (R' := fun e w' => e = .returned (.bool (numB x.2)) ∧ Below w0.heap.size w0 w') (fun e w' h => by obtain ⟨h1, rfl⟩ := h; exact ⟨h1, Below.refl _ _⟩))
      have HW := Lib.hid (show rowB x = (keyB x.1 && numB x.2) from rfl)
      obtain ⟨kk, n⟩ := x
      simp only at hx c0 c1 HK HN HW
      have hki : (k : Int) < (l.length : Int) := by omega
      have hki0 : (0 : Int) ≤ (k : Int) := by omega
      generalize keyB kk = kb at *
      generalize numB n = nb at *
      cases kb
      · have HNO := Lib.hid (rowsB_badT HX.out (by rw [HW.out]; rfl))
        go_wp2_with fail
        refine wp_region_below (by kernel_rfl) (by kernel_rfl) ?_
        iterate 34 (first | go_big_quiet_skip | (refine wpQuiet_step (fun K hK => ?_); go_simp; first | (apply Exists.intro; refine ⟨fun W hW => ?_, hK _ ?_⟩; (first | rfl | (go_at_call 45; exact quiet_call hW (Nat.le_refl _) (HK.out _)) | (go_at_call 46; exact quiet_call hW (Nat.le_refl _) (HN.out _)) | (have c0x := (hW.cell (p := ⟨b, o + k * 2, none⟩) hbl).trans c0; have c1x := (hW.cell (p := ⟨b, o + k * 2 + 1, none⟩) hbl).trans c1; go_simp; rfl)); clear hK K) | (refine hK _ ?_; clear hK K)))
        refine wpQuiet_nil ?_
        intro W hW
        have hbW := bthen hb hW
        go_wp2
        go_ret
        exact ⟨ret_bool HNO.out.symm, hbW⟩
      · cases nb
        · have HNO := Lib.hid (rowsB_badT HX.out (by rw [HW.out]; rfl))
          go_wp2_with fail
          refine wp_region_below (by kernel_rfl) (by kernel_rfl) ?_
          iterate 34 (first | go_big_quiet_skip | (refine wpQuiet_step (fun K hK => ?_); go_simp; first | (apply Exists.intro; refine ⟨fun W hW => ?_, hK _ ?_⟩; (first | rfl | (go_at_call 45; exact quiet_call hW (Nat.le_refl _) (HK.out _)) | (go_at_call 46; exact quiet_call hW (Nat.le_refl _) (HN.out _)) | (have c0x := (hW.cell (p := ⟨b, o + k * 2, none⟩) hbl).trans c0; have c1x := (hW.cell (p := ⟨b, o + k * 2 + 1, none⟩) hbl).trans c1; go_simp; rfl)); clear hK K) | (refine hK _ ?_; clear hK K)))
          refine wpQuiet_nil ?_
          intro W hW
          have hbW := bthen hb hW
          go_wp2
          go_ret
          exact ⟨ret_bool HNO.out.symm, hbW⟩
        · have HWT := Lib.hid (show rowB (kk, n) = true by rw [HW.out]; rfl)
          by_cases hk0 : k = 0
          · subst hk0
            simp only [Nat.zero_mul, Nat.add_zero] at c0 c1
            have hrel1 := Lib.hid (show okToR l 1 from fun j hj z hz => by
              obtain rfl : j = 0 := by omega
              rw [HX.out] at hz; injection hz with hz; subst hz
              exact ⟨HWT.out, fun y h0 => absurd h0 (by omega)⟩)
            go_wp2_with fail
            refine wp_region_below (by kernel_rfl) (by kernel_rfl) ?_
            iterate 34 (first | go_big_quiet_skip | (refine wpQuiet_step (fun K hK => ?_); go_simp; first | (apply Exists.intro; refine ⟨fun W hW => ?_, hK _ ?_⟩; (first | rfl | (go_at_call 45; exact quiet_call hW (Nat.le_refl _) (HK.out _)) | (go_at_call 46; exact quiet_call hW (Nat.le_refl _) (HN.out _)) | (have c0x := (hW.cell (p := ⟨b, o, none⟩) hbl).trans c0; have c1x := (hW.cell (p := ⟨b, o + 1, none⟩) hbl).trans c1; go_simp; rfl)); clear hK K) | (refine hK _ ?_; clear hK K)))
            refine wpQuiet_nil ?_
            intro W hW
            have hbW := bthen hb hW
            go_wp2
            go_roundw
            case rel => exact ⟨1, by omega, by go_num, hrel1.out, hbW⟩
            case measure => simp [intOf]; omega
          · obtain ⟨m, rfl⟩ : ∃ m, k = m + 1 := ⟨k - 1, by omega⟩
            obtain ⟨b', o', he, hbl', d0, d1⟩ := Sl.at2 (hR.below hb) (show m < l.length by omega)
            simp at he
            obtain ⟨rfl, rfl⟩ := he
            have HY := Lib.hid (List.getElem?_eq_getElem (show m < l.length by omega))
            generalize l[m] = y at *
            have q1 : IntKind.i64.wrap (m : Int) = (m : Int) := IntWalk.i64_in _ (by omega)
            have q2 : (m : Int) < (l.length : Int) := by omega
            have q3 : (0 : Int) ≤ (m : Int) := by omega
            have q4 : (m : Int) + 1 < (l.length : Int) := by omega
            have q5 : (0 : Int) < (m : Int) + 1 := by omega
            have q6 : ((m : Int) + 1).toNat = m + 1 := by omega
            have q7 : (0 : Int) ≤ (m : Int) + 1 := by omega
            clear hki hki0 hk0
            cases hab : ltB y.1 kk
            · have HNO := Lib.hid (rowsB_orderT HY.out HX.out hab)
              have hge : (!(Op.bytesLess y.1.toList kk.toList)) = true := by rw [show Op.bytesLess y.1.toList kk.toList = false from hab]; rfl
              have hge2 : Op.bytesLess y.1.toList kk.toList = false := hab
              clear hab
              go_wp2_with fail
              refine wp_region_below (by kernel_rfl) (by kernel_rfl) ?_
              iterate 34 (first | go_big_quiet_skip | (refine wpQuiet_step (fun K hK => ?_); go_simp; first | (apply Exists.intro; refine ⟨fun W hW => ?_, hK _ ?_⟩; (first | rfl | (go_at_call 45; exact quiet_call hW (Nat.le_refl _) (HK.out _)) | (go_at_call 46; exact quiet_call hW (Nat.le_refl _) (HN.out _)) | (have c0x := (hW.cell (p := ⟨b, o + (m + 1) * 2, none⟩) hbl).trans c0; have c1x := (hW.cell (p := ⟨b, o + (m + 1) * 2 + 1, none⟩) hbl).trans c1; have d0x := (hW.cell (p := ⟨b, o + m * 2, none⟩) hbl).trans d0; go_simp; rfl)); clear hK K) | (refine hK _ ?_; clear hK K)))
              refine wpQuiet_nil ?_
              intro W hW
              have hbW := bthen hb hW
              go_wp2
              go_ret
              exact ⟨ret_bool HNO.out.symm, hbW⟩
            · have hge2 : Op.bytesLess y.1.toList kk.toList = true := hab
              have hge : (!(Op.bytesLess y.1.toList kk.toList)) = false := by rw [show Op.bytesLess y.1.toList kk.toList = true from hab]; rfl
              have HAB := Lib.hid hab
              clear hab
              have hrel1 := Lib.hid (show okToR l (m + 1 + 1) from fun j hj z hz => by
                by_cases hjm : j < m + 1
                · exact HOK.out j hjm z hz
                · obtain rfl : j = m + 1 := by omega
                  rw [HX.out] at hz; injection hz with hz; subst hz
                  refine ⟨HWT.out, fun y' _ hy' => ?_⟩
                  simp only [Nat.add_sub_cancel] at hy'
                  rw [HY.out] at hy'; injection hy' with hy'; subst hy'
                  exact HAB.out)
              go_wp2_with fail
              refine wp_region_below (by kernel_rfl) (by kernel_rfl) ?_
              iterate 34 (first | go_big_quiet_skip | (refine wpQuiet_step (fun K hK => ?_); go_simp; first | (apply Exists.intro; refine ⟨fun W hW => ?_, hK _ ?_⟩; (first | rfl | (go_at_call 45; exact quiet_call hW (Nat.le_refl _) (HK.out _)) | (go_at_call 46; exact quiet_call hW (Nat.le_refl _) (HN.out _)) | (have c0x := (hW.cell (p := ⟨b, o + (m + 1) * 2, none⟩) hbl).trans c0; have c1x := (hW.cell (p := ⟨b, o + (m + 1) * 2 + 1, none⟩) hbl).trans c1; have d0x := (hW.cell (p := ⟨b, o + m * 2, none⟩) hbl).trans d0; go_simp; rfl)); clear hK K) | (refine hK _ ?_; clear hK K)))
              refine wpQuiet_nil ?_
              intro W hW
              have hbW := bthen hb hW
              go_wp2
              go_roundw
              case rel => exact ⟨m + 1 + 1, by omega, by go_num, hrel1.out, hbW⟩
              case measure => simp [intOf]; omega
    · obtain rfl : k = l.length := by omega
      have HE := Lib.hid (rowsB_endT HOK.out)
      by_cases h10 : l.length ≤ 10
      · have d0 : decide ((l.length : Int) ≤ 10) = true := decide_eq_true (by omega)
        go_wp2
        go_ret
        exact ⟨ret_bool (HE.out.trans (decide_eq_true h10)).symm, hb⟩
      · have d0 : decide ((l.length : Int) ≤ 10) = false := decide_eq_false (by omega)
        go_wp2
        go_ret
        exact ⟨ret_bool (HE.out.trans (decide_eq_false h10)).symm, hb⟩
/-- the place of a key, or of the first one behind it -/
def findN (K : ByteArray) : List Row → Nat
  | [] => 0
  | x :: l => if ltB x.1 K = true then findN K l + 1 else 0
theorem findN_le (K : ByteArray) : ∀ l : List Row, findN K l ≤ l.length
  | [] => Nat.le_refl _
  | x :: l => by
    unfold findN
    have := findN_le K l
    split <;> simp <;> omega
theorem findN_step (K : ByteArray) : ∀ (l : List Row) (k : Nat) (x : Row), k ≤ findN K l → l[k]? = some x → (ltB x.1 K = true → k + 1 ≤ findN K l) ∧ (ltB x.1 K = false → findN K l = k)
  | [], k, x, _, h => by simp at h
  | y :: l, 0, x, _, h => by
    simp at h
    subst h
    unfold findN
    constructor
    · intro h; rw [if_pos h]; omega
    · intro h; rw [if_neg (by rw [h]; simp)]
  | y :: l, k + 1, x, hk, h => by
    unfold findN at hk ⊢
    by_cases hy : ltB y.1 K = true
    · rw [if_pos hy] at hk ⊢
      obtain ⟨h1, h2⟩ := findN_step K l k x (by omega) (by simpa using h)
      exact ⟨fun h => by have := h1 h; omega, fun h => by rw [h2 h]⟩
    · rw [if_neg hy] at hk; omega
def hasN (K : ByteArray) (l : List Row) : Bool := (l[findN K l]?).any (fun x => decide (x.1 = K))
theorem ret2 {m n : Nat} {a b : Bool} (h : m = n) (h2 : a = b) : Ending.returned (.tuple #[.int .i64 (n : Int), .bool b]) = Ending.returned (.tuple #[.int .i64 (m : Int), .bool a]) := by rw [h, h2]
set_option maxRecDepth 100000 in
set_option maxHeartbeats 4000000 in
theorem l1Find_any (A : Option Addr) (l : List Row) (c : Nat) (K : ByteArray) (w : World) (hn : l.length ≤ 1048576) (hR : Sl encRow 2 w A l) :
    Calls Tryz.prog 107 #[.slice A l.length c, .string K] w fun e w' => e = .returned (.tuple #[.int .i64 (findN K l), .bool (hasN K l)]) ∧ Below w.heap.size w w' := by
  go_enter Tryz.func107, Tryz.ntmps107
  go_wp2
  go_loopw [6] (fun i wr => ∃ k : Nat, k ≤ l.length ∧ i = .int .i64 k ∧ Hid (k ≤ findN K l) ∧ wr = w) (fun i _ => l.length - (intOf i).toNat)
  case atStart => exact ⟨0, by omega, rfl, Lib.hid (Nat.zero_le _), rfl⟩
  case round =>
    obtain ⟨k, hk, rfl, HK, rfl⟩ := hrel
    by_cases hlt : k < l.length
    · obtain ⟨b, o, rfl, hbl, c0, c1⟩ := Sl.at2 hR hlt
      have HX := Lib.hid (List.getElem?_eq_getElem hlt)
      have HST := Lib.hid (findN_step K l k l[k] HK.out (List.getElem?_eq_getElem hlt))
      generalize l[k] = x at *
      obtain ⟨xk, xn⟩ := x
      simp only at c0 c1 HST
      have hki : (k : Int) < (l.length : Int) := by omega
      have hki0 : (0 : Int) ≤ (k : Int) := by omega
      cases hab : ltB xk K
      · have HF := Lib.hid (HST.out.2 hab)
        have hge2 : Op.bytesLess xk.toList K.toList = false := hab
        by_cases heq : xk = K
        · have HH := Lib.hid (show hasN K l = true from by unfold hasN; rw [HF.out, HX.out]; simp [heq])
          have he : (xk.toList == K.toList) = true := by rw [heq]; simp
          clear heq hab hR
          go_wp2_with fail
          refine wp_region_below (by kernel_rfl) (by kernel_rfl) ?_
          iterate 16 (first | go_big_quiet_skip | (refine wpQuiet_step (fun K hK => ?_); go_simp; first | (apply Exists.intro; refine ⟨fun W hW => ?_, hK _ ?_⟩; (first | rfl | (have c0x := (hW.cell (p := ⟨b, o + k * 2, none⟩) hbl).trans c0; go_simp; rfl)); clear hK K) | (refine hK _ ?_; clear hK K)))
          refine wpQuiet_nil ?_
          intro W hW
          go_wp2
          go_ret2
          exact ⟨ret2 HF.out HH.out, hW⟩
        · have HH := Lib.hid (show hasN K l = false from by unfold hasN; rw [HF.out, HX.out]; simp [heq])
          have he : (xk.toList == K.toList) = false := beq_eq_false_iff_ne.2 (fun h => heq ((bytes_eq_iff _ _).1 h))
          clear heq hab hR
          go_wp2_with fail
          refine wp_region_below (by kernel_rfl) (by kernel_rfl) ?_
          iterate 16 (first | go_big_quiet_skip | (refine wpQuiet_step (fun K hK => ?_); go_simp; first | (apply Exists.intro; refine ⟨fun W hW => ?_, hK _ ?_⟩; (first | rfl | (have c0x := (hW.cell (p := ⟨b, o + k * 2, none⟩) hbl).trans c0; go_simp; rfl)); clear hK K) | (refine hK _ ?_; clear hK K)))
          refine wpQuiet_nil ?_
          intro W hW
          go_wp2
          go_ret2
          exact ⟨ret2 HF.out HH.out, hW⟩
      · have hge2 : Op.bytesLess xk.toList K.toList = true := hab
        have HK2 := Lib.hid (HST.out.1 hab)
        clear hab
        go_wp2
        go_roundw
        case rel => exact ⟨k + 1, by omega, by go_num, HK2, by first | rfl | trivial⟩
        case measure => simp [intOf]; omega
    · obtain rfl : k = l.length := by omega
      have HF := Lib.hid (Nat.le_antisymm (findN_le K l) HK.out)
      have HH := Lib.hid (show hasN K l = false from by unfold hasN; rw [HF.out]; simp)
      go_wp2_with fail
      refine wp_region_below (by kernel_rfl) (by kernel_rfl) ?_
      iterate 16 (first | go_big_quiet_skip | (refine wpQuiet_step (fun K hK => ?_); go_simp; first | (apply Exists.intro; refine ⟨fun W hW => ?_, hK _ ?_⟩; (first | rfl | (skip; go_simp; rfl)); clear hK K) | (refine hK _ ?_; clear hK K)))
      refine wpQuiet_nil ?_
      intro W hW
      go_wp2
      go_ret2
      exact ⟨ret2 HF.out HH.out, hW⟩
end Go.Proofs.YtfmhhckkpenldaaGreatDoor
