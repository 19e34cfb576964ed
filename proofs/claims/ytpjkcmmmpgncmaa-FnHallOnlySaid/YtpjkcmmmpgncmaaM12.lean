import Derived.Test.YtpjkcmmmpgncmaaM01
import Derived.Test.YtpjkcmmmpgncmaaM05
import Derived.BigQuiet
/- A write alone and rows of writes: whether they are right; the program's tests. -/
namespace Go.Proofs.Ytpjkcmmmpgncmaa
open Go.RowKit
def wriB (x : Wri) : Bool := keyB x.1 && numB x.2.1 && (!x.2.2 || x.2.1 == 0)
open Classical in
noncomputable def wrsB (most : Nat) (l : List Wri) : Bool := decide (l.length ≤ most ∧ (∀ x ∈ l, wriB x = true) ∧ ∀ (i : Nat) (x y : Wri), l[i]? = some x → l[i + 1]? = some y → ltB x.1 y.1 = true)
def ascP (l : List Wri) (k : Nat) : Prop := ∀ (i : Nat) (x y : Wri), i + 1 < k → l[i]? = some x → l[i + 1]? = some y → ltB x.1 y.1 = true
open Classical in
noncomputable def asc (l : List Wri) : Bool := decide (ascP l l.length)
theorem asc_yes {l : List Wri} (h : ascP l l.length) : asc l = true := by unfold asc; simpa using h
theorem wrsB_iff {most : Nat} {l : List Wri} : wrsB most l = true ↔ l.length ≤ most ∧ (∀ x ∈ l, wriB x = true) ∧ asc l = true := by
  have h : asc l = true ↔ ∀ (i : Nat) (x y : Wri), l[i]? = some x → l[i + 1]? = some y → ltB x.1 y.1 = true := by
    unfold asc ascP
    simp only [decide_eq_true_eq]
    exact ⟨fun h i x y h1 h2 => h i x y (List.getElem?_eq_some_iff.1 h2).1 h1 h2, fun h i x y _ h1 h2 => h i x y h1 h2⟩
  rw [h]
  unfold wrsB
  simp only [decide_eq_true_eq]
end Go.Proofs.Ytpjkcmmmpgncmaa
/- The reference's WritesOk. -/
namespace Go.Proofs.Ytpjkcmmmpgncmaa
open Go.RowKit
def okTo (l : List Wri) (k : Nat) : Prop := ∀ j, j < k → ∀ z, l[j]? = some z → wriB z = true ∧ ∀ y, 0 < j → l[j - 1]? = some y → ltB y.1 z.1 = true
theorem wrsB_bad {most : Nat} {l : List Wri} {k : Nat} {x : Wri} (hx : l[k]? = some x) (h : wriB x = false) : wrsB most l = false := by
  rw [Bool.eq_false_iff]; intro h2
  have := (wrsB_iff.1 h2).2.1 x (List.mem_of_getElem? hx)
  rw [h] at this; cases this
theorem wrsB_order {most : Nat} {l : List Wri} {m : Nat} {x y : Wri} (hy : l[m]? = some y) (hx : l[m + 1]? = some x) (h : ltB y.1 x.1 = false) : wrsB most l = false := by
  rw [Bool.eq_false_iff]; intro h2
  have h3 : asc l = true := (wrsB_iff.1 h2).2.2
  unfold asc ascP at h3
  simp only [decide_eq_true_eq] at h3
  have := h3 m y x (List.getElem?_eq_some_iff.1 hx).1 hy hx
  rw [h] at this; cases this
theorem wrsB_end {most : Nat} {l : List Wri} (h : okTo l l.length) : wrsB most l = decide (l.length ≤ most) := by
  rw [Bool.eq_iff_iff, wrsB_iff]
  simp only [decide_eq_true_eq]
  refine ⟨fun h2 => h2.1, fun h2 => ⟨h2, fun x hx => ?_, asc_yes (fun i x y hi h3 h4 => ?_)⟩⟩
  · obtain ⟨j, hj⟩ := List.getElem?_of_mem hx
    exact (h j (List.getElem?_eq_some_iff.1 hj).1 x hj).1
  · exact (h (i + 1) hi y h4).2 x (by omega) (by simpa using h3)
set_option maxRecDepth 100000 in
set_option maxHeartbeats 4000000 in
theorem specWritesOk_any (A : Option Addr) (l : List Wri) (c : Nat) (w : World) (hf : FitsW l) (hn : l.length ≤ 1048576) (hR : Sl encWri 3 w A l) :
    Calls Try.prog 107 #[.slice A l.length c] w fun e w' => e = .returned (.bool (wrsB 6 l)) ∧ Below w.heap.size w w' := by
  go_enter Try.func107, Try.ntmps107
  go_wp2
  go_loopw [3] (fun i wr => ∃ k : Nat, k ≤ l.length ∧ i = .int .i64 k ∧ okTo l k ∧ Below w.heap.size w wr) (fun i _ => l.length - (intOf i).toNat)
  case atStart => exact ⟨0, by omega, rfl, fun j h => absurd h (by omega), Below.refl _ _⟩
  case round =>
    obtain ⟨k, hk, rfl, hok, hb⟩ := hrel
    have HOK := Lib.hid hok
    clear hok
    by_cases hlt : k < l.length
    · obtain ⟨b, o, rfl, hbl, c0, c1, c2⟩ := Sl.at3 (hR.below hb) hlt
      have hx := hf.2 _ (List.getElem_mem hlt)
      have HX := Lib.hid (List.getElem?_eq_getElem hlt)
      generalize l[k] = x at *
      have HK := Lib.hid (fun w0 : World => (specKeyOk_any x.1 w0 hx).mono (R' := fun e w' => e = .returned (.bool (keyB x.1)) ∧ Below w0.heap.size w0 w') (fun e w' h => by obtain ⟨h1, rfl⟩ := h; exact ⟨h1, Below.refl _ _⟩))
      have HN := Lib.hid (fun w0 : World => (specNumOk_any x.2.1 w0).mono (R' := fun e w' => e = .returned (.bool (numB x.2.1)) ∧ Below w0.heap.size w0 w') (fun e w' h => by obtain ⟨h1, rfl⟩ := h; exact ⟨h1, Below.refl _ _⟩))
      have HW := Lib.hid (show wriB x = (keyB x.1 && numB x.2.1 && (!x.2.2 || x.2.1 == 0)) from rfl)
      obtain ⟨kk, n, gn⟩ := x
      simp only at hx c0 c1 c2 HK HN HW
      have hki : (k : Int) < (l.length : Int) := by omega
      have hki0 : (0 : Int) ≤ (k : Int) := by omega
      generalize keyB kk = kb at *
      generalize numB n = nb at *
      cases kb
      · have HNO := Lib.hid (wrsB_bad (most := 6) HX.out (by rw [HW.out]; rfl))
        go_wp2_with fail
        refine wp_region_below (by kernel_rfl) (by kernel_rfl) ?_
        iterate 49 (first | go_big_quiet_skip | (refine wpQuiet_step (fun K hK => ?_); go_simp; first | (apply Exists.intro; refine ⟨fun W hW => ?_, hK _ ?_⟩; (first | rfl | (go_at_call 104; exact quiet_call hW (Nat.le_refl _) (HK.out _)) | (have c0x := (hW.cell (p := ⟨b, o + k * 3, none⟩) hbl).trans c0; have c1x := (hW.cell (p := ⟨b, o + k * 3 + 1, none⟩) hbl).trans c1; have c2x := (hW.cell (p := ⟨b, o + k * 3 + 2, none⟩) hbl).trans c2; go_simp; rfl)); clear hK K) | (refine hK _ ?_; clear hK K)))
        refine wpQuiet_nil ?_
        intro W hW
        have hbW := bthen hb hW
        go_wp2
        go_ret
        exact ⟨ret_bool HNO.out.symm, hbW⟩
      · cases nb
        · have HNO := Lib.hid (wrsB_bad (most := 6) HX.out (by rw [HW.out]; rfl))
          go_wp2_with fail
          refine wp_region_below (by kernel_rfl) (by kernel_rfl) ?_
          iterate 49 (first | go_big_quiet_skip | (refine wpQuiet_step (fun K hK => ?_); go_simp; first | (apply Exists.intro; refine ⟨fun W hW => ?_, hK _ ?_⟩; (first | rfl | (go_at_call 104; exact quiet_call hW (Nat.le_refl _) (HK.out _)) | (go_at_call 105; exact quiet_call hW (Nat.le_refl _) (HN.out _)) | (have c0x := (hW.cell (p := ⟨b, o + k * 3, none⟩) hbl).trans c0; have c1x := (hW.cell (p := ⟨b, o + k * 3 + 1, none⟩) hbl).trans c1; have c2x := (hW.cell (p := ⟨b, o + k * 3 + 2, none⟩) hbl).trans c2; go_simp; rfl)); clear hK K) | (refine hK _ ?_; clear hK K)))
          refine wpQuiet_nil ?_
          intro W hW
          have hbW := bthen hb hW
          go_wp2
          go_ret
          exact ⟨ret_bool HNO.out.symm, hbW⟩
        · by_cases hgn : gn = true ∧ n ≠ 0
          · obtain ⟨rfl, hn0⟩ := hgn
            have q0 : (n == 0) = false := beq_eq_false_iff_ne.2 hn0
            have HNO := Lib.hid (wrsB_bad (most := 6) HX.out (by rw [HW.out, q0]; rfl))
            have q0' : (n != 0) = true := by simpa using hn0
            clear hn0
            go_wp2_with fail
            refine wp_region_below (by kernel_rfl) (by kernel_rfl) ?_
            iterate 49 (first | go_big_quiet_skip | (refine wpQuiet_step (fun K hK => ?_); go_simp; first | (apply Exists.intro; refine ⟨fun W hW => ?_, hK _ ?_⟩; (first | rfl | (go_at_call 104; exact quiet_call hW (Nat.le_refl _) (HK.out _)) | (go_at_call 105; exact quiet_call hW (Nat.le_refl _) (HN.out _)) | (have c0x := (hW.cell (p := ⟨b, o + k * 3, none⟩) hbl).trans c0; have c1x := (hW.cell (p := ⟨b, o + k * 3 + 1, none⟩) hbl).trans c1; have c2x := (hW.cell (p := ⟨b, o + k * 3 + 2, none⟩) hbl).trans c2; go_simp; rfl)); clear hK K) | (refine hK _ ?_; clear hK K)))
            refine wpQuiet_nil ?_
            intro W hW
            have hbW := bthen hb hW
            go_wp2
            go_ret
            exact ⟨ret_bool HNO.out.symm, hbW⟩
          · have HWT := Lib.hid (show wriB (kk, n, gn) = true by
              rw [HW.out]
              cases gn
              · rfl
              · have : n = 0 := by
                  by_cases h : n = 0
                  · exact h
                  · exact absurd ⟨rfl, h⟩ hgn
                subst this; rfl)
            have hgn2 : gn = false ∨ (gn = true ∧ n = 0) := by
              cases gn
              · exact .inl rfl
              · right; refine ⟨rfl, ?_⟩
                by_cases h : n = 0
                · exact h
                · exact absurd ⟨rfl, h⟩ hgn
            clear hgn
            by_cases hk0 : k = 0
            · subst hk0
              simp only [Nat.zero_mul, Nat.add_zero] at c0 c1 c2
              have hrel1 := Lib.hid (show okTo l 1 from fun j hj z hz => by
                obtain rfl : j = 0 := by omega
                rw [HX.out] at hz; injection hz with hz; subst hz
                exact ⟨HWT.out, fun y h0 => absurd h0 (by omega)⟩)
              obtain rfl | ⟨rfl, rfl⟩ := hgn2
              · go_wp2_with fail
                refine wp_region_below (by kernel_rfl) (by kernel_rfl) ?_
                iterate 49 (first | go_big_quiet_skip | (refine wpQuiet_step (fun K hK => ?_); go_simp; first | (apply Exists.intro; refine ⟨fun W hW => ?_, hK _ ?_⟩; (first | rfl | (go_at_call 104; exact quiet_call hW (Nat.le_refl _) (HK.out _)) | (go_at_call 105; exact quiet_call hW (Nat.le_refl _) (HN.out _)) | (have c0x := (hW.cell (p := ⟨b, o, none⟩) hbl).trans c0; have c1x := (hW.cell (p := ⟨b, o + 1, none⟩) hbl).trans c1; have c2x := (hW.cell (p := ⟨b, o + 2, none⟩) hbl).trans c2; go_simp; rfl)); clear hK K) | (refine hK _ ?_; clear hK K)))
                refine wpQuiet_nil ?_
                intro W hW
                have hbW := bthen hb hW
                go_wp2
                go_roundw
                case rel => exact ⟨1, by omega, by go_num, hrel1.out, hbW⟩
                case measure => simp [intOf]; omega
              · go_wp2_with fail
                refine wp_region_below (by kernel_rfl) (by kernel_rfl) ?_
                iterate 49 (first | go_big_quiet_skip | (refine wpQuiet_step (fun K hK => ?_); go_simp; first | (apply Exists.intro; refine ⟨fun W hW => ?_, hK _ ?_⟩; (first | rfl | (go_at_call 104; exact quiet_call hW (Nat.le_refl _) (HK.out _)) | (go_at_call 105; exact quiet_call hW (Nat.le_refl _) (HN.out _)) | (have c0x := (hW.cell (p := ⟨b, o, none⟩) hbl).trans c0; have c1x := (hW.cell (p := ⟨b, o + 1, none⟩) hbl).trans c1; have c2x := (hW.cell (p := ⟨b, o + 2, none⟩) hbl).trans c2; go_simp; rfl)); clear hK K) | (refine hK _ ?_; clear hK K)))
                refine wpQuiet_nil ?_
                intro W hW
                have hbW := bthen hb hW
                go_wp2
                go_roundw
                case rel => exact ⟨1, by omega, by go_num, hrel1.out, hbW⟩
                case measure => simp [intOf]; omega
            · obtain ⟨m, rfl⟩ : ∃ m, k = m + 1 := ⟨k - 1, by omega⟩
              obtain ⟨b', o', he, hbl', d0, d1, d2⟩ := Sl.at3 (hR.below hb) (show m < l.length by omega)
              simp at he
              obtain ⟨rfl, rfl⟩ := he
              have HY := Lib.hid (List.getElem?_eq_getElem (show m < l.length by omega))
              generalize l[m] = y at *
              have q1 : IntKind.i64.wrap (m : Int) = (m : Int) := IntWalk.i64_in _ (by omega)
              have q2 : (m : Int) < (l.length : Int) := by omega
              have q3 : (0 : Int) ≤ (m : Int) := by omega
              have q4 : (m : Int) + 1 < (l.length : Int) := by omega
              have q5 : (0 : Int) < (m : Int) + 1 := by omega
              have q6 : ((m : Int) + 1).toNat = m + 1 := by omega
              have q7 : (0 : Int) ≤ (m : Int) + 1 := by omega
              clear hki hki0 hk0
              cases hab : ltB y.1 kk
              · have HNO := Lib.hid (wrsB_order (most := 6) HY.out HX.out hab)
                have hge : (!(Op.bytesLess y.1.toList kk.toList)) = true := by rw [show Op.bytesLess y.1.toList kk.toList = false from hab]; rfl
                have hge2 : Op.bytesLess y.1.toList kk.toList = false := hab
                clear hab
                obtain rfl | ⟨rfl, rfl⟩ := hgn2
                · go_wp2_with fail
                  refine wp_region_below (by kernel_rfl) (by kernel_rfl) ?_
                  iterate 49 (first | go_big_quiet_skip | (refine wpQuiet_step (fun K hK => ?_); go_simp; first | (apply Exists.intro; refine ⟨fun W hW => ?_, hK _ ?_⟩; (first | rfl | (go_at_call 104; exact quiet_call hW (Nat.le_refl _) (HK.out _)) | (go_at_call 105; exact quiet_call hW (Nat.le_refl _) (HN.out _)) | (have c0x := (hW.cell (p := ⟨b, o + (m + 1) * 3, none⟩) hbl).trans c0; have c1x := (hW.cell (p := ⟨b, o + (m + 1) * 3 + 1, none⟩) hbl).trans c1; have c2x := (hW.cell (p := ⟨b, o + (m + 1) * 3 + 2, none⟩) hbl).trans c2; have d0x := (hW.cell (p := ⟨b, o + m * 3, none⟩) hbl).trans d0; go_simp; rfl)); clear hK K) | (refine hK _ ?_; clear hK K)))
                  refine wpQuiet_nil ?_
                  intro W hW
                  have hbW := bthen hb hW
                  go_wp2
                  go_ret
                  exact ⟨ret_bool HNO.out.symm, hbW⟩
                · go_wp2_with fail
                  refine wp_region_below (by kernel_rfl) (by kernel_rfl) ?_
                  iterate 49 (first | go_big_quiet_skip | (refine wpQuiet_step (fun K hK => ?_); go_simp; first | (apply Exists.intro; refine ⟨fun W hW => ?_, hK _ ?_⟩; (first | rfl | (go_at_call 104; exact quiet_call hW (Nat.le_refl _) (HK.out _)) | (go_at_call 105; exact quiet_call hW (Nat.le_refl _) (HN.out _)) | (have c0x := (hW.cell (p := ⟨b, o + (m + 1) * 3, none⟩) hbl).trans c0; have c1x := (hW.cell (p := ⟨b, o + (m + 1) * 3 + 1, none⟩) hbl).trans c1; have c2x := (hW.cell (p := ⟨b, o + (m + 1) * 3 + 2, none⟩) hbl).trans c2; have d0x := (hW.cell (p := ⟨b, o + m * 3, none⟩) hbl).trans d0; go_simp; rfl)); clear hK K) | (refine hK _ ?_; clear hK K)))
                  refine wpQuiet_nil ?_
                  intro W hW
                  have hbW := bthen hb hW
                  go_wp2
                  go_ret
                  exact ⟨ret_bool HNO.out.symm, hbW⟩
              · have hge2 : Op.bytesLess y.1.toList kk.toList = true := hab
                have hge : (!(Op.bytesLess y.1.toList kk.toList)) = false := by rw [show Op.bytesLess y.1.toList kk.toList = true from hab]; rfl
                have HAB := Lib.hid hab
                clear hab
                have hrel1 := Lib.hid (show okTo l (m + 1 + 1) from fun j hj z hz => by
                  by_cases hjm : j < m + 1
                  · exact HOK.out j hjm z hz
                  · obtain rfl : j = m + 1 := by omega
                    rw [HX.out] at hz; injection hz with hz; subst hz
                    refine ⟨HWT.out, fun y' _ hy' => ?_⟩
                    simp only [Nat.add_sub_cancel] at hy'
                    rw [HY.out] at hy'; injection hy' with hy'; subst hy'
                    exact HAB.out)
                obtain rfl | ⟨rfl, rfl⟩ := hgn2
                · go_wp2_with fail
                  refine wp_region_below (by kernel_rfl) (by kernel_rfl) ?_
                  iterate 49 (first | go_big_quiet_skip | (refine wpQuiet_step (fun K hK => ?_); go_simp; first | (apply Exists.intro; refine ⟨fun W hW => ?_, hK _ ?_⟩; (first | rfl | (go_at_call 104; exact quiet_call hW (Nat.le_refl _) (HK.out _)) | (go_at_call 105; exact quiet_call hW (Nat.le_refl _) (HN.out _)) | (have c0x := (hW.cell (p := ⟨b, o + (m + 1) * 3, none⟩) hbl).trans c0; have c1x := (hW.cell (p := ⟨b, o + (m + 1) * 3 + 1, none⟩) hbl).trans c1; have c2x := (hW.cell (p := ⟨b, o + (m + 1) * 3 + 2, none⟩) hbl).trans c2; have d0x := (hW.cell (p := ⟨b, o + m * 3, none⟩) hbl).trans d0; go_simp; rfl)); clear hK K) | (refine hK _ ?_; clear hK K)))
                  refine wpQuiet_nil ?_
                  intro W hW
                  have hbW := bthen hb hW
                  go_wp2
                  go_roundw
                  case rel => exact ⟨m + 1 + 1, by omega, by go_num, hrel1.out, hbW⟩
                  case measure => simp [intOf]; omega
                · go_wp2_with fail
                  refine wp_region_below (by kernel_rfl) (by kernel_rfl) ?_
                  iterate 49 (first | go_big_quiet_skip | (refine wpQuiet_step (fun K hK => ?_); go_simp; first | (apply Exists.intro; refine ⟨fun W hW => ?_, hK _ ?_⟩; (first | rfl | (go_at_call 104; exact quiet_call hW (Nat.le_refl _) (HK.out _)) | (go_at_call 105; exact quiet_call hW (Nat.le_refl _) (HN.out _)) | (have c0x := (hW.cell (p := ⟨b, o + (m + 1) * 3, none⟩) hbl).trans c0; have c1x := (hW.cell (p := ⟨b, o + (m + 1) * 3 + 1, none⟩) hbl).trans c1; have c2x := (hW.cell (p := ⟨b, o + (m + 1) * 3 + 2, none⟩) hbl).trans c2; have d0x := (hW.cell (p := ⟨b, o + m * 3, none⟩) hbl).trans d0; go_simp; rfl)); clear hK K) | (refine hK _ ?_; clear hK K)))
                  refine wpQuiet_nil ?_
                  intro W hW
                  have hbW := bthen hb hW
                  go_wp2
                  go_roundw
                  case rel => exact ⟨m + 1 + 1, by omega, by go_num, hrel1.out, hbW⟩
                  case measure => simp [intOf]; omega
    · obtain rfl : k = l.length := by omega
      have HE := Lib.hid (wrsB_end (most := 6) HOK.out)
      by_cases h6 : l.length ≤ 6
      · have d6 : decide ((l.length : Int) ≤ 6) = true := decide_eq_true (by omega)
        have d6n : decide (l.length ≤ 6) = true := decide_eq_true h6
        rw [d6n] at HE
        go_wp2
        go_ret
        exact ⟨ret_bool HE.out.symm, hb⟩
      · have d6 : decide ((l.length : Int) ≤ 6) = false := decide_eq_false (by omega)
        have d6n : decide (l.length ≤ 6) = false := decide_eq_false h6
        rw [d6n] at HE
        go_wp2
        go_ret
        exact ⟨ret_bool HE.out.symm, hb⟩
end Go.Proofs.Ytpjkcmmmpgncmaa
