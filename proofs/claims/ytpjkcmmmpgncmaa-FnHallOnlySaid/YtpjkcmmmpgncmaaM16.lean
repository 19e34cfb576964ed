import Derived.BigQuiet
import Derived.Test.YtpjkcmmmpgncmaaM14
import Derived.Test.YtpjkcmmmpgncmaaM03
import Derived.Deep.RegionWith
/- The reference on rows: RowsOk, l1Find, l1Copy, RowsGet. -/
namespace Go.Proofs.Ytpjkcmmmpgncmaa
open Go.RowKit
theorem rowsB_iffT {R : List Row} : rowsB R = true ↔ R.length ≤ 10 ∧ (∀ x ∈ R, rowB x = true) ∧ AscR R := by
  constructor
  · intro h
    refine ⟨?_, ?_, ascP_of h⟩
    · unfold rowsB at h; rw [decide_eq_true_eq] at h; exact h.1
    · unfold rowsB at h; rw [decide_eq_true_eq] at h; exact h.2.1
  · rintro ⟨h1, h2, h3⟩
    unfold rowsB
    rw [decide_eq_true_eq]
    exact ⟨h1, h2, ascR_of h3⟩
def okToR (l : List Row) (k : Nat) : Prop := ∀ j, j < k → ∀ z, l[j]? = some z → rowB z = true ∧ ∀ y, 0 < j → l[j - 1]? = some y → ltB y.1 z.1 = true
theorem rowsB_badT {l : List Row} {k : Nat} {x : Row} (hx : l[k]? = some x) (h : rowB x = false) : rowsB l = false := by
  rw [Bool.eq_false_iff]; intro h2
  have := (rowsB_iffT.1 h2).2.1 x (List.mem_of_getElem? hx)
  rw [h] at this; cases this
theorem rowsB_orderT {l : List Row} {m : Nat} {x y : Row} (hy : l[m]? = some y) (hx : l[m + 1]? = some x) (h : ltB y.1 x.1 = false) : rowsB l = false := by
  rw [Bool.eq_false_iff]; intro h2
  have h3 := (rowsB_iffT.1 h2).2.2
  obtain ⟨h4, e4⟩ := List.getElem?_eq_some_iff.1 hy
  obtain ⟨h5, e5⟩ := List.getElem?_eq_some_iff.1 hx
  have h6 := List.pairwise_iff_getElem.1 h3 m (m + 1) h4 h5 (by omega)
  rw [e4, e5] at h6
  have h7 : ltB y.1 x.1 = true := h6
  rw [h] at h7; cases h7
theorem pair_next {l : List Row} (h : ∀ (i : Nat) (x y : Row), l[i]? = some x → l[i + 1]? = some y → kLt x.1 y.1) : AscR l := by
  have h4 : ∀ (j i : Nat) (x y : Row), i < j → l[i]? = some x → l[j]? = some y → kLt x.1 y.1 := by
    intro j
    induction j with
    | zero => intro i x y hij; omega
    | succ j ih =>
      intro i x y hij hx hy
      by_cases e : i = j
      · subst e; exact h i x y hx hy
      · have hj : j < l.length := by have := (List.getElem?_eq_some_iff.1 hy).1; omega
        exact kLt_trans (ih i x _ (by omega) hx (List.getElem?_eq_getElem hj)) (h j _ y (List.getElem?_eq_getElem hj) hy)
  unfold AscR
  rw [List.pairwise_iff_getElem]
  intro i j hi hj hij
  exact h4 j i _ _ hij (List.getElem?_eq_getElem hi) (List.getElem?_eq_getElem hj)
theorem rowsB_endT {l : List Row} (h : okToR l l.length) : rowsB l = decide (l.length ≤ 10) := by
  rw [Bool.eq_iff_iff, rowsB_iffT]
  simp only [decide_eq_true_eq]
  refine ⟨fun h2 => h2.1, fun h2 => ⟨h2, fun x hx => ?_, pair_next (fun i x y h3 h4 => ?_)⟩⟩
  · obtain ⟨j, hj⟩ := List.getElem?_of_mem hx
    exact (h j (List.getElem?_eq_some_iff.1 hj).1 x hj).1
  · exact (h (i + 1) (List.getElem?_eq_some_iff.1 h4).1 y h4).2 x (by omega) (by simpa using h3)
set_option maxRecDepth 100000 in
set_option maxHeartbeats 4000000 in
theorem specRowsOk_any (A : Option Addr) (l : List Row) (c : Nat) (w : World) (hf : ∀ x ∈ l, x.1.size ≤ maxLen) (hn : l.length ≤ 1048576) (hR : Sl encRow 2 w A l) :
    Calls Try.prog 237 #[.slice A l.length c] w fun e w' => e = .returned (.bool (rowsB l)) ∧ Below w.heap.size w w' := by
  go_enter Try.func237, Try.ntmps237
  go_wp2
  go_loopw [3] (fun i wr => ∃ k : Nat, k ≤ l.length ∧ i = .int .i64 k ∧ okToR l k ∧ Below w.heap.size w wr) (fun i _ => l.length - (intOf i).toNat)
  case atStart => exact ⟨0, by omega, rfl, fun j h => absurd h (by omega), Below.refl _ _⟩
  case round =>
    obtain ⟨k, hk, rfl, hok, hb⟩ := hrel
    have HOK := Lib.hid hok
    clear hok
    by_cases hlt : k < l.length
    · obtain ⟨b, o, rfl, hbl, c0, c1⟩ := Sl.at2 (hR.below hb) hlt
      have hx := hf _ (List.getElem_mem hlt)
      have HX := Lib.hid (List.getElem?_eq_getElem hlt)
      generalize l[k] = x at *
      have HK := Lib.hid (fun w0 : World => (specKeyOk_any x.1 w0 hx).mono (R' := fun e w' => e = .returned (.bool (keyB x.1)) ∧ Below w0.heap.size w0 w') (fun e w' h => by obtain ⟨h1, rfl⟩ := h; exact ⟨h1, Below.refl _ _⟩))
      have HN := Lib.hid (fun w0 : World => (specNumOk_any x.2 w0).mono (R' := fun e w' => e = .returned (.bool (numB x.2)) ∧ Below w0.heap.size w0 w') (fun e w' h => by obtain ⟨h1, rfl⟩ := h; exact ⟨h1, Below.refl _ _⟩))
      have HW := Lib.hid (show rowB x = (keyB x.1 && numB x.2) from rfl)
      obtain ⟨kk, n⟩ := x
      simp only at hx c0 c1 HK HN HW
      have hki : (k : Int) < (l.length : Int) := by omega
      have hki0 : (0 : Int) ≤ (k : Int) := by omega
      generalize keyB kk = kb at *
      generalize numB n = nb at *
      cases kb
      · have HNO := Lib.hid (rowsB_badT HX.out (by rw [HW.out]; rfl))
        go_wp2_with fail
        refine wp_region_below (by kernel_rfl) (by kernel_rfl) ?_
        iterate 34 (first | go_big_quiet_skip | (refine wpQuiet_step (fun K hK => ?_); go_simp; first | (apply Exists.intro; refine ⟨fun W hW => ?_, hK _ ?_⟩; (first | rfl | (go_at_call 104; exact quiet_call hW (Nat.le_refl _) (HK.out _)) | (go_at_call 105; exact quiet_call hW (Nat.le_refl _) (HN.out _)) | (have c0x := (hW.cell (p := ⟨b, o + k * 2, none⟩) hbl).trans c0; have c1x := (hW.cell (p := ⟨b, o + k * 2 + 1, none⟩) hbl).trans c1; go_simp; rfl)); clear hK K) | (refine hK _ ?_; clear hK K)))
        refine wpQuiet_nil ?_
        intro W hW
        have hbW := bthen hb hW
        go_wp2
        go_ret
        exact ⟨ret_bool HNO.out.symm, hbW⟩
      · cases nb
        · have HNO := Lib.hid (rowsB_badT HX.out (by rw [HW.out]; rfl))
          go_wp2_with fail
          refine wp_region_below (by kernel_rfl) (by kernel_rfl) ?_
          iterate 34 (first | go_big_quiet_skip | (refine wpQuiet_step (fun K hK => ?_); go_simp; first | (apply Exists.intro; refine ⟨fun W hW => ?_, hK _ ?_⟩; (first | rfl | (go_at_call 104; exact quiet_call hW (Nat.le_refl _) (HK.out _)) | (go_at_call 105; exact quiet_call hW (Nat.le_refl _) (HN.out _)) | (have c0x := (hW.cell (p := ⟨b, o + k * 2, none⟩) hbl).trans c0; have c1x := (hW.cell (p := ⟨b, o + k * 2 + 1, none⟩) hbl).trans c1; go_simp; rfl)); clear hK K) | (refine hK _ ?_; clear hK K)))
          refine wpQuiet_nil ?_
          intro W hW
          have hbW := bthen hb hW
          go_wp2
          go_ret
          exact ⟨ret_bool HNO.out.symm, hbW⟩
        · have HWT := Lib.hid (show rowB (kk, n) = true by rw [HW.out]; rfl)
          by_cases hk0 : k = 0
          · subst hk0
            simp only [Nat.zero_mul, Nat.add_zero] at c0 c1
            have hrel1 := Lib.hid (show okToR l 1 from fun j hj z hz => by
              obtain rfl : j = 0 := by omega
              rw [HX.out] at hz; injection hz with hz; subst hz
              exact ⟨HWT.out, fun y h0 => absurd h0 (by omega)⟩)
            go_wp2_with fail
            refine wp_region_below (by kernel_rfl) (by kernel_rfl) ?_
            iterate 34 (first | go_big_quiet_skip | (refine wpQuiet_step (fun K hK => ?_); go_simp; first | (apply Exists.intro; refine ⟨fun W hW => ?_, hK _ ?_⟩; (first | rfl | (go_at_call 104; exact quiet_call hW (Nat.le_refl _) (HK.out _)) | (go_at_call 105; exact quiet_call hW (Nat.le_refl _) (HN.out _)) | (have c0x := (hW.cell (p := ⟨b, o, none⟩) hbl).trans c0; have c1x := (hW.cell (p := ⟨b, o + 1, none⟩) hbl).trans c1; go_simp; rfl)); clear hK K) | (refine hK _ ?_; clear hK K)))
            refine wpQuiet_nil ?_
            intro W hW
            have hbW := bthen hb hW
            go_wp2
            go_roundw
            case rel => exact ⟨1, by omega, by go_num, hrel1.out, hbW⟩
            case measure => simp [intOf]; omega
          · obtain ⟨m, rfl⟩ : ∃ m, k = m + 1 := ⟨k - 1, by omega⟩
            obtain ⟨b', o', he, hbl', d0, d1⟩ := Sl.at2 (hR.below hb) (show m < l.length by omega)
            simp at he
            obtain ⟨rfl, rfl⟩ := he
            have HY := Lib.hid (List.getElem?_eq_getElem (show m < l.length by omega))
            generalize l[m] = y at *
            have q1 : IntKind.i64.wrap (m : Int) = (m : Int) := IntWalk.i64_in _ (by omega)
            have q2 : (m : Int) < (l.length : Int) := by omega
            have q3 : (0 : Int) ≤ (m : Int) := by omega
            have q4 : (m : Int) + 1 < (l.length : Int) := by omega
            have q5 : (0 : Int) < (m : Int) + 1 := by omega
            have q6 : ((m : Int) + 1).toNat = m + 1 := by omega
            have q7 : (0 : Int) ≤ (m : Int) + 1 := by omega
            clear hki hki0 hk0
            cases hab : ltB y.1 kk
            · have HNO := Lib.hid (rowsB_orderT HY.out HX.out hab)
              have hge : (!(Op.bytesLess y.1.toList kk.toList)) = true := by rw [show Op.bytesLess y.1.toList kk.toList = false from hab]; rfl
              have hge2 : Op.bytesLess y.1.toList kk.toList = false := hab
              clear hab
              go_wp2_with fail
              refine wp_region_below (by kernel_rfl) (by kernel_rfl) ?_
              iterate 34 (first | go_big_quiet_skip | (refine wpQuiet_step (fun K hK => ?_); go_simp; first | (apply Exists.intro; refine ⟨fun W hW => ?_, hK _ ?_⟩; (first | rfl | (go_at_call 104; exact quiet_call hW (Nat.le_refl _) (HK.out _)) | (go_at_call 105; exact quiet_call hW (Nat.le_refl _) (HN.out _)) | (have c0x := (hW.cell (p := ⟨b, o + (m + 1) * 2, none⟩) hbl).trans c0; have c1x := (hW.cell (p := ⟨b, o + (m + 1) * 2 + 1, none⟩) hbl).trans c1; have d0x := (hW.cell (p := ⟨b, o + m * 2, none⟩) hbl).trans d0; go_simp; rfl)); clear hK K) | (refine hK _ ?_; clear hK K)))
              refine wpQuiet_nil ?_
              intro W hW
              have hbW := bthen hb hW
              go_wp2
              go_ret
              exact ⟨ret_bool HNO.out.symm, hbW⟩
            · have hge2 : Op.bytesLess y.1.toList kk.toList = true := hab
              have hge : (!(Op.bytesLess y.1.toList kk.toList)) = false := by rw [show Op.bytesLess y.1.toList kk.toList = true from hab]; rfl
              have HAB := Lib.hid hab
              clear hab
              have hrel1 := Lib.hid (show okToR l (m + 1 + 1) from fun j hj z hz => by
                by_cases hjm : j < m + 1
                · exact HOK.out j hjm z hz
                · obtain rfl : j = m + 1 := by omega
                  rw [HX.out] at hz; injection hz with hz; subst hz
                  refine ⟨HWT.out, fun y' _ hy' => ?_⟩
                  simp only [Nat.add_sub_cancel] at hy'
                  rw [HY.out] at hy'; injection hy' with hy'; subst hy'
                  exact HAB.out)
              go_wp2_with fail
              refine wp_region_below (by kernel_rfl) (by kernel_rfl) ?_
              iterate 34 (first | go_big_quiet_skip | (refine wpQuiet_step (fun K hK => ?_); go_simp; first | (apply Exists.intro; refine ⟨fun W hW => ?_, hK _ ?_⟩; (first | rfl | (go_at_call 104; exact quiet_call hW (Nat.le_refl _) (HK.out _)) | (go_at_call 105; exact quiet_call hW (Nat.le_refl _) (HN.out _)) | (have c0x := (hW.cell (p := ⟨b, o + (m + 1) * 2, none⟩) hbl).trans c0; have c1x := (hW.cell (p := ⟨b, o + (m + 1) * 2 + 1, none⟩) hbl).trans c1; have d0x := (hW.cell (p := ⟨b, o + m * 2, none⟩) hbl).trans d0; go_simp; rfl)); clear hK K) | (refine hK _ ?_; clear hK K)))
              refine wpQuiet_nil ?_
              intro W hW
              have hbW := bthen hb hW
              go_wp2
              go_roundw
              case rel => exact ⟨m + 1 + 1, by omega, by go_num, hrel1.out, hbW⟩
              case measure => simp [intOf]; omega
    · obtain rfl : k = l.length := by omega
      have HE := Lib.hid (rowsB_endT HOK.out)
      by_cases h10 : l.length ≤ 10
      · have d0 : decide ((l.length : Int) ≤ 10) = true := decide_eq_true (by omega)
        go_wp2
        go_ret
        exact ⟨ret_bool (HE.out.trans (decide_eq_true h10)).symm, hb⟩
      · have d0 : decide ((l.length : Int) ≤ 10) = false := decide_eq_false (by omega)
        go_wp2
        go_ret
        exact ⟨ret_bool (HE.out.trans (decide_eq_false h10)).symm, hb⟩
/-- the place of a key, or of the first one behind it -/
def findN (K : ByteArray) : List Row → Nat
  | [] => 0
  | x :: l => if ltB x.1 K = true then findN K l + 1 else 0
theorem findN_le (K : ByteArray) : ∀ l : List Row, findN K l ≤ l.length
  | [] => Nat.le_refl _
  | x :: l => by
    unfold findN
    have := findN_le K l
    split <;> simp <;> omega
theorem findN_step (K : ByteArray) : ∀ (l : List Row) (k : Nat) (x : Row), k ≤ findN K l → l[k]? = some x → (ltB x.1 K = true → k + 1 ≤ findN K l) ∧ (ltB x.1 K = false → findN K l = k)
  | [], k, x, _, h => by simp at h
  | y :: l, 0, x, _, h => by
    simp at h
    subst h
    unfold findN
    constructor
    · intro h; rw [if_pos h]; omega
    · intro h; rw [if_neg (by rw [h]; simp)]
  | y :: l, k + 1, x, hk, h => by
    unfold findN at hk ⊢
    by_cases hy : ltB y.1 K = true
    · rw [if_pos hy] at hk ⊢
      obtain ⟨h1, h2⟩ := findN_step K l k x (by omega) (by simpa using h)
      exact ⟨fun h => by have := h1 h; omega, fun h => by rw [h2 h]⟩
    · rw [if_neg hy] at hk; omega
def hasN (K : ByteArray) (l : List Row) : Bool := (l[findN K l]?).any (fun x => decide (x.1 = K))
theorem ret2 {m n : Nat} {a b : Bool} (h : m = n) (h2 : a = b) : Ending.returned (.tuple #[.int .i64 (n : Int), .bool b]) = Ending.returned (.tuple #[.int .i64 (m : Int), .bool a]) := by rw [h, h2]
set_option maxRecDepth 100000 in
set_option maxHeartbeats 4000000 in
theorem l1Find_any (A : Option Addr) (l : List Row) (c : Nat) (K : ByteArray) (w : World) (hn : l.length ≤ 1048576) (hR : Sl encRow 2 w A l) :
    Calls Try.prog 240 #[.slice A l.length c, .string K] w fun e w' => e = .returned (.tuple #[.int .i64 (findN K l), .bool (hasN K l)]) ∧ Below w.heap.size w w' := by
  go_enter Try.func240, Try.ntmps240
  go_wp2
  go_loopw [6] (fun i wr => ∃ k : Nat, k ≤ l.length ∧ i = .int .i64 k ∧ Hid (k ≤ findN K l) ∧ wr = w) (fun i _ => l.length - (intOf i).toNat)
  case atStart => exact ⟨0, by omega, rfl, Lib.hid (Nat.zero_le _), rfl⟩
  case round =>
    obtain ⟨k, hk, rfl, HK, rfl⟩ := hrel
    by_cases hlt : k < l.length
    · obtain ⟨b, o, rfl, hbl, c0, c1⟩ := Sl.at2 hR hlt
      have HX := Lib.hid (List.getElem?_eq_getElem hlt)
      have HST := Lib.hid (findN_step K l k l[k] HK.out (List.getElem?_eq_getElem hlt))
      generalize l[k] = x at *
      obtain ⟨xk, xn⟩ := x
      simp only at c0 c1 HST
      have hki : (k : Int) < (l.length : Int) := by omega
      have hki0 : (0 : Int) ≤ (k : Int) := by omega
      cases hab : ltB xk K
      · have HF := Lib.hid (HST.out.2 hab)
        have hge2 : Op.bytesLess xk.toList K.toList = false := hab
        by_cases heq : xk = K
        · have HH := Lib.hid (show hasN K l = true from by unfold hasN; rw [HF.out, HX.out]; simp [heq])
          have he : (xk.toList == K.toList) = true := by rw [heq]; simp
          clear heq hab hR
          go_wp2_with fail
          refine wp_region_below (by kernel_rfl) (by kernel_rfl) ?_
          iterate 16 (first | go_big_quiet_skip | (refine wpQuiet_step (fun K hK => ?_); go_simp; first | (apply Exists.intro; refine ⟨fun W hW => ?_, hK _ ?_⟩; (first | rfl | (have c0x := (hW.cell (p := ⟨b, o + k * 2, none⟩) hbl).trans c0; go_simp; rfl)); clear hK K) | (refine hK _ ?_; clear hK K)))
          refine wpQuiet_nil ?_
          intro W hW
          go_wp2
          go_ret2
          exact ⟨ret2 HF.out HH.out, hW⟩
        · have HH := Lib.hid (show hasN K l = false from by unfold hasN; rw [HF.out, HX.out]; simp [heq])
          have he : (xk.toList == K.toList) = false := beq_eq_false_iff_ne.2 (fun h => heq ((bytes_eq_iff _ _).1 h))
          clear heq hab hR
          go_wp2_with fail
          refine wp_region_below (by kernel_rfl) (by kernel_rfl) ?_
          iterate 16 (first | go_big_quiet_skip | (refine wpQuiet_step (fun K hK => ?_); go_simp; first | (apply Exists.intro; refine ⟨fun W hW => ?_, hK _ ?_⟩; (first | rfl | (have c0x := (hW.cell (p := ⟨b, o + k * 2, none⟩) hbl).trans c0; go_simp; rfl)); clear hK K) | (refine hK _ ?_; clear hK K)))
          refine wpQuiet_nil ?_
          intro W hW
          go_wp2
          go_ret2
          exact ⟨ret2 HF.out HH.out, hW⟩
      · have hge2 : Op.bytesLess xk.toList K.toList = true := hab
        have HK2 := Lib.hid (HST.out.1 hab)
        clear hab
        go_wp2
        go_roundw
        case rel => exact ⟨k + 1, by omega, by go_num, HK2, by first | rfl | trivial⟩
        case measure => simp [intOf]; omega
    · obtain rfl : k = l.length := by omega
      have HF := Lib.hid (Nat.le_antisymm (findN_le K l) HK.out)
      have HH := Lib.hid (show hasN K l = false from by unfold hasN; rw [HF.out]; simp)
      go_wp2_with fail
      refine wp_region_below (by kernel_rfl) (by kernel_rfl) ?_
      iterate 16 (first | go_big_quiet_skip | (refine wpQuiet_step (fun K hK => ?_); go_simp; first | (apply Exists.intro; refine ⟨fun W hW => ?_, hK _ ?_⟩; (first | rfl | (skip; go_simp; rfl)); clear hK K) | (refine hK _ ?_; clear hK K)))
      refine wpQuiet_nil ?_
      intro W hW
      go_wp2
      go_ret2
      exact ⟨ret2 HF.out HH.out, hW⟩
end Go.Proofs.Ytpjkcmmmpgncmaa
/- The reference on rows: copies, what is under a key, the sum. -/
namespace Go.Proofs.Ytpjkcmmmpgncmaa
open Go.RowKit
theorem ownR_mk {w : World} {B : Nat} {v : Value} {l : List Row} (h : w.ownsRow B 111 2 v (0 + l.length) ([] ++ l.flatMap encRow)) : OwnR w B v l := by
  unfold OwnR; rwa [Nat.zero_add, List.nil_append] at h
set_option maxRecDepth 100000 in
set_option maxHeartbeats 2000000 in
theorem l1Copy_any (A : Option Addr) (l : List Row) (c : Nat) (w : World) (hn : l.length ≤ 1048576) (hR : Sl encRow 2 w A l) :
    Calls Try.prog 241 #[.slice A l.length c] w fun e w' => ∃ A' c', e = .returned (.slice A' l.length c') ∧ OwnR w' w.heap.size (.slice A' l.length c') l ∧ Below w.heap.size w w' := by
  obtain ⟨i0, hi, hz0, hz1, hz2⟩ := info_parts infoRow
  have HI := Lib.hid (⟨hi, hz0, hz1, hz2⟩ : _ ∧ _ ∧ _ ∧ _)
  clear hi hz0 hz1 hz2
  have ho := (own_of_blk (base := w.heap.size) (n := 0) (k := 2) (xs := []) (Blk.new w 111 #[]) (Nat.le_refl _) (Nat.zero_le _) rfl rfl)
  have hb0 := (Below.refl w.heap.size w).alloc (Nat.le_refl _) (.cells #[] 111)
  have HO := Lib.hid ho
  have HS := Lib.hid (hR.below hb0)
  have HB := Lib.hid hb0
  have HBS := Lib.hid (show w.heap.size ≤ (w.alloc (.cells #[] 111)).heap.size by simp)
  have H63 := Lib.hid (show 0 + l.length ≤ maxLen by unfold maxLen; omega)
  have HBY := Lib.hid (show (0 + l.length) * 24 ≤ 140737488355328 by omega)
  clear ho hb0 hR
  go_enter Try.func241, Try.ntmps241
  go_wp2_with (at_builtin; refine wpList_append_sl (enc := encRow) rfl (.tmp 3) (.tmp 4) 68 rfl w.heap.size 111 i0 _ 2 24 Try.underlying68 HI.out.1 HI.out.2.1 HI.out.2.2.1 HI.out.2.2.2 rfl (by decide) (.slice (some ⟨w.heap.size, 0, none⟩) 0 0) 0 [] rfl HO.out encRow_len A l c rfl HS.out (encRow_one l) H63.out HBY.out HBS.out ?_; intro v' w' hown hgrow; have ho : OwnR w' w.heap.size v' l := ownR_mk hown)
  go_ret
  obtain ⟨A', c', rfl, _, _, _⟩ := ho.sl
  exact ⟨A', c', rfl, ho, below_own HB.out hgrow HBS.out (fun k hk => by simp [Value.ownBlock] at hk; omega)⟩
theorem findN_lt {K : ByteArray} {l : List Row} (h : hasN K l = true) : ∃ x, l[findN K l]? = some x ∧ x.1 = K := by
  unfold hasN at h
  cases hx : l[findN K l]? with
  | none => rw [hx] at h; simp at h
  | some x => rw [hx] at h; exact ⟨x, rfl, by simpa using h⟩
theorem kirr {K : ByteArray} : ltB K K = false := by
  cases h : ltB K K
  · rfl
  · exact absurd (show kLt K K from h) (kLt_irrefl K)
/-- in rows in order a key is found where it is -/
theorem hasN_iff {K : ByteArray} : ∀ {l : List Row}, AscR l → (hasN K l = true ↔ ∃ x ∈ l, x.1 = K)
  | [], _ => by simp [hasN]
  | x :: l, h => by
    obtain ⟨h1, h2⟩ := List.pairwise_cons.1 h
    by_cases hlt : ltB x.1 K = true
    · have e : findN K (x :: l) = findN K l + 1 := by rw [findN, if_pos hlt]
      have e2 : hasN K (x :: l) = hasN K l := by unfold hasN; rw [e]; simp
      rw [e2, hasN_iff h2]
      constructor
      · rintro ⟨y, hy, he⟩; exact ⟨y, List.mem_cons_of_mem _ hy, he⟩
      · rintro ⟨y, hy, he⟩
        rcases List.mem_cons.1 hy with rfl | hy
        · rw [he, kirr] at hlt; cases hlt
        · exact ⟨y, hy, he⟩
    · have e : findN K (x :: l) = 0 := by rw [findN, if_neg hlt]
      have e2 : hasN K (x :: l) = decide (x.1 = K) := by unfold hasN; rw [e]; simp
      rw [e2]
      simp only [decide_eq_true_eq]
      constructor
      · intro he; exact ⟨x, List.mem_cons_self, he⟩
      · rintro ⟨y, hy, he⟩
        rcases List.mem_cons.1 hy with rfl | hy
        · exact he
        · have := h1 y hy
          rw [he] at this
          exact absurd this hlt
theorem getR_find {K : ByteArray} {l : List Row} (h : rowsB l = true) {x : Row} (hh : hasN K l = true) (hx : l[findN K l]? = some x) : getR l K = (x.2, true) := by
  obtain ⟨y, hy, he⟩ := findN_lt hh
  rw [hx] at hy
  injection hy with hy
  subst hy
  exact getR_yes h hx he
theorem getR_none {K : ByteArray} {l : List Row} (h : rowsB l = true) (hh : hasN K l = false) : getR l K = (0, false) := by
  have hn : ¬ ∃ x ∈ l, x.1 = K := fun hx => by rw [(hasN_iff (rowsB_iffT.1 h).2.2).2 hx] at hh; cases hh
  unfold getR
  rw [if_pos h]
  cases hf : l.find? (fun x => decide (x.1 = K)) with
  | none => rfl
  | some x =>
    have h1 := List.find?_some hf
    exact absurd ⟨x, List.mem_of_find?_eq_some hf, by simpa using h1⟩ hn
set_option maxRecDepth 100000 in
set_option maxHeartbeats 2000000 in
theorem specRowsGet_any (A : Option Addr) (l : List Row) (c : Nat) (K : ByteArray) (w : World) (hf : ∀ x ∈ l, x.1.size ≤ maxLen) (hn : l.length ≤ 1048576) (hR : Sl encRow 2 w A l) :
    Calls Try.prog 233 #[.slice A l.length c, .string K] w fun e w' => e = .returned (.tuple #[.int .i64 (getR l K).1, .bool (getR l K).2]) ∧ Below w.heap.size w w' := by
  have HC := Lib.hid (l1Find_any A l c K w hn hR)
  have HR := Lib.hid hR
  have HF := Lib.hid hf
  have HLE := Lib.hid (findN_le K l)
  clear hR hf
  obtain ⟨f, hf⟩ : ∃ f, f = findN K l := ⟨_, rfl⟩
  obtain ⟨hh, hhh⟩ : ∃ b, b = hasN K l := ⟨_, rfl⟩
  rw [← hf, ← hhh] at HC
  have HFN := Lib.hid hf
  have HHN := Lib.hid hhh
  clear hf hhh
  go_enter Try.func233, Try.ntmps233
  go_wp2_with fail
  refine HC.out.mono ?_
  rintro e w1 ⟨rfl, hb1⟩
  have HC2 := Lib.hid (specRowsOk_any A l c w1 HF.out hn (HR.out.below hb1))
  have HB1 := Lib.hid hb1
  clear HC hb1
  go_wp2_with fail
  refine HC2.out.mono ?_
  rintro e w2 ⟨rfl, hb2⟩
  have HS := Lib.hid (HR.out.below (bthen HB1.out hb2))
  have HBE := Lib.hid (bthen HB1.out hb2)
  clear HC2 hb2
  cases hok : rowsB l
  · have HG := Lib.hid (getR_bad (key := K) hok)
    clear hok
    go_wp2
    go_ret2
    exact ⟨by rw [HG.out]; rfl, HBE.out⟩
  · cases hh
    · have HG := Lib.hid (getR_none hok HHN.out.symm)
      clear hok
      go_wp2
      go_ret2
      exact ⟨by rw [HG.out]; rfl, HBE.out⟩
    · obtain ⟨x, hx, he⟩ := findN_lt HHN.out.symm
      have HG := Lib.hid (getR_find hok HHN.out.symm hx)
      rw [← HFN.out] at hx
      obtain ⟨hlt, hxe⟩ := List.getElem?_eq_some_iff.1 hx
      obtain ⟨b, o, rfl, hbl, c0, c1⟩ := Sl.at2 HS.out hlt
      rw [hxe] at c0 c1
      have hki : (f : Int) < (l.length : Int) := by omega
      have hki0 : (0 : Int) ≤ (f : Int) := by omega
      clear hok hx hxe he
      go_wp2
      go_ret2
      exact ⟨by rw [HG.out]; rfl, HBE.out⟩
end Go.Proofs.Ytpjkcmmmpgncmaa
