/- The reference's l8Right. -/
import Derived.Test.YtpjkcmmmpgncmaaSWrt
namespace Go.Proofs.Ytpjkcmmmpgncmaa
open Go.RowKit
theorem wrsB_one (x : Wri) : wrsB 6 [x] = wriB x := by
  rw [Bool.eq_iff_iff, wrsB_iff]
  constructor
  · intro h; exact h.2.1 x List.mem_cons_self
  · intro h
    refine ⟨by simp, fun y hy => ?_, asc_yes (fun i y z hi _ _ => absurd hi (by simp))⟩
    simp at hy; subst hy; exact h
theorem Sl.one3 {w : World} {b o : Nat} {l : List Wri} (h : Sl encWri 3 w (some ⟨b, o, none⟩) l) {k : Nat} (hk : k < l.length) : Sl encWri 3 w (some ⟨b, o + k * 3, none⟩) [l[k]] := by
  obtain ⟨b', o', e, hb, hc⟩ := h (by omega)
  simp at e
  obtain ⟨rfl, rfl⟩ := e
  refine fun _ => ⟨b, o + k * 3, rfl, hb, fun i j x hx hj => ?_⟩
  obtain ⟨rfl, rfl⟩ : i = 0 ∧ x = l[k] := by
    cases i with
    | zero => simp at hx; exact ⟨rfl, hx.symm⟩
    | succ i => simp at hx
  have := hc k j l[k] (List.getElem?_eq_getElem hk) hj
  rw [show o + k * 3 + 0 * 3 + j = o + k * 3 + j by omega]
  exact this
set_option maxRecDepth 100000 in
set_option maxHeartbeats 4000000 in
theorem l8Right_any (A : Option Addr) (l : List Wri) (c : Nat) (w : World) (hf : FitsW l) (hn : l.length ≤ 1048576) (hlc : l.length ≤ c) (hcm : c ≤ maxLen) (hR : Sl encWri 3 w A l) :
    Calls Try.prog 62 #[.slice A l.length c] w fun e w' => e = .returned (.bool (wrsB 20 l)) ∧ Below w.heap.size w w' := by
  unfold maxLen at hcm
  go_enter Try.func62, Try.ntmps62
  go_wp2
  go_loopw [3] (fun i wr => ∃ k : Nat, k ≤ l.length ∧ i = .int .i64 k ∧ okTo l k ∧ Below w.heap.size w wr) (fun i _ => l.length - (intOf i).toNat)
  case atStart => exact ⟨0, by omega, rfl, fun j h => absurd h (by omega), Below.refl _ _⟩
  case round =>
    obtain ⟨k, hk, rfl, hok, hb⟩ := hrel
    have HOK := Lib.hid hok
    clear hok
    by_cases hlt : k < l.length
    · obtain ⟨b, o, rfl, hbl, c0, _, _⟩ := Sl.at3 (hR.below hb) hlt
      have hx := hf.2 _ (List.getElem_mem hlt)
      have HX := Lib.hid (List.getElem?_eq_getElem hlt)
      have HS1 := Lib.hid (Sl.one3 (hR.below hb) hlt)
      have HK := Lib.hid (hR.below hb)
      generalize l[k] = x at *
      have HW1 := Lib.hid (fun (w0 : World) (h0 : Below wr.heap.size wr w0) => specWritesOk_any (some ⟨b, o + k * 3, none⟩) [x] (c - k) w0 ⟨by unfold maxLen; simp, fun y hy => by simp at hy; subst hy; exact hx⟩ (by simp) (HS1.out.below h0))
      rw [wrsB_one] at HW1
      simp only [List.length_cons, List.length_nil, Nat.zero_add] at HW1
      have hki : (k : Int) < (l.length : Int) := by omega
      have hki0 : (0 : Int) ≤ (k : Int) := by omega
      have g1 : (k : Int) ≤ (k : Int) + 1 := by omega
      have g2 : (k : Int) + 1 ≤ (c : Int) := by omega
      have g3 : ¬ c = k := by omega
      have g4 : IntKind.i64.wrap ((k : Int) + 1) = (k : Int) + 1 := by rw [IntKind.wrap_i64]; omega
      have g5 : ((k : Int) + 1).toNat = k + 1 := by omega
      have g6 : (0 : Int) ≤ (k : Int) + 1 := by omega
      have g7 : k + 1 - k = 1 := by omega
      have g8 : k ≤ k + 1 := by omega
      have g9 : k + 1 ≤ c := by omega
      cases hwb : wriB x
      · rw [hwb] at HW1
        have HNO := Lib.hid (wrsB_bad (most := 20) HX.out hwb)
        clear hwb
        go_wp2_with fail
        refine wp_region_below (by kernel_rfl) (by kernel_rfl) ?_
        iterate 25 (first | go_big_quiet_skip | (refine wpQuiet_step (fun K hK => ?_); go_simp; first | (apply Exists.intro; refine ⟨fun W hW => ?_, hK _ ?_⟩; (first | rfl | (go_at_call 107; exact quiet_call hW (Nat.le_refl _) (HW1.out _ hW)) | (have c0x := (hW.cell (p := ⟨b, o + k * 3, none⟩) hbl).trans c0; go_simp; rfl)); clear hK K) | (refine hK _ ?_; clear hK K)))
        refine wpQuiet_nil ?_
        intro W hW
        have hbW := bthen hb hW
        go_wp2
        go_ret
        exact ⟨ret_bool HNO.out.symm, hbW⟩
      · rw [hwb] at HW1
        have HWT := Lib.hid hwb
        clear hwb
        by_cases hk0 : k = 0
        · subst hk0
          have hrel1 := Lib.hid (show okTo l 1 from fun j hj z hz => by
            obtain rfl : j = 0 := by omega
            rw [HX.out] at hz; injection hz with hz; subst hz
            exact ⟨HWT.out, fun y h0 => absurd h0 (by omega)⟩)
          simp only [Nat.zero_mul, Nat.add_zero, Nat.sub_zero] at c0 HW1
          have u1 : IntKind.i64.wrap (1 : Int) = 1 := by decide
          have u2 : (1 : Int) ≤ (c : Int) := by omega
          have u3 : ¬ (c = 0) := by omega
          have u4 : (1 : Int).toNat = 1 := rfl
          go_wp2_with fail
          refine wp_region_below (by kernel_rfl) (by kernel_rfl) ?_
          iterate 25 (first | go_big_quiet_skip | (refine wpQuiet_step (fun K hK => ?_); go_simp; first | (apply Exists.intro; refine ⟨fun W hW => ?_, hK _ ?_⟩; (first | rfl | (go_at_call 107; exact quiet_call hW (Nat.le_refl _) (HW1.out _ hW)) | (have c0x := (hW.cell (p := ⟨b, o, none⟩) hbl).trans c0; go_simp; rfl)); clear hK K) | (refine hK _ ?_; clear hK K)))
          refine wpQuiet_nil ?_
          intro W hW
          have hbW := bthen hb hW
          go_wp2
          go_roundw
          case rel => exact ⟨1, by omega, by go_num, hrel1.out, hbW⟩
          case measure => simp [intOf]; omega
        · obtain ⟨m, rfl⟩ : ∃ m, k = m + 1 := ⟨k - 1, by omega⟩
          obtain ⟨b', o', he, hbl', d0, d1, d2⟩ := Sl.at3 HK.out (show m < l.length by omega)
          simp at he
          obtain ⟨rfl, rfl⟩ := he
          have HY := Lib.hid (List.getElem?_eq_getElem (show m < l.length by omega))
          generalize l[m] = y at *
          have q1 : IntKind.i64.wrap (m : Int) = (m : Int) := IntWalk.i64_in _ (by omega)
          have q2 : (m : Int) < (l.length : Int) := by omega
          have q3 : (0 : Int) ≤ (m : Int) := by omega
          have q4 : (m : Int) + 1 < (l.length : Int) := by omega
          have q5 : (0 : Int) < (m : Int) + 1 := by omega
          have q6 : ((m : Int) + 1).toNat = m + 1 := by omega
          have q7 : (0 : Int) ≤ (m : Int) + 1 := by omega
          have u1 : IntKind.i64.wrap ((m : Int) + 1 + 1) = (m : Int) + 1 + 1 := IntWalk.i64_in _ (by omega)
          have u2 : (m : Int) + 1 + 1 ≤ (c : Int) := by omega
          have u3 : ¬ (c = m + 1) := by omega
          have u4 : ((m : Int) + 1 + 1).toNat = m + 1 + 1 := by omega
          have u5 : (m : Int) + 1 ≤ (m : Int) + 1 + 1 := by omega
          have u6 : m + 1 + 1 - (m + 1) = 1 := by omega
          have u7 : (0 : Int) ≤ (m : Int) + 1 + 1 := by omega
          have u8 : (m : Int) + 1 ≤ max ((m : Int) + 1 + 1) 0 := by omega
          have u9 : ¬ (m + 1 = c) := by omega
          clear hki hki0 hk0
          cases hab : ltB y.1 x.1
          · have HNO := Lib.hid (wrsB_order (most := 20) HY.out HX.out hab)
            have hge : (!(Op.bytesLess y.1.toList x.1.toList)) = true := by rw [show Op.bytesLess y.1.toList x.1.toList = false from hab]; rfl
            have hge2 : Op.bytesLess y.1.toList x.1.toList = false := hab
            clear hab
            go_wp2_with fail
            refine wp_region_below (by kernel_rfl) (by kernel_rfl) ?_
            iterate 25 (first | go_big_quiet_skip | (refine wpQuiet_step (fun K hK => ?_); go_simp; first | (apply Exists.intro; refine ⟨fun W hW => ?_, hK _ ?_⟩; (first | rfl | (go_at_call 107; exact quiet_call hW (Nat.le_refl _) (HW1.out _ hW)) | (have c0x := (hW.cell (p := ⟨b, o + (m + 1) * 3, none⟩) hbl).trans c0; have d0x := (hW.cell (p := ⟨b, o + m * 3, none⟩) hbl).trans d0; go_simp; rfl)); clear hK K) | (refine hK _ ?_; clear hK K)))
            refine wpQuiet_nil ?_
            intro W hW
            have hbW := bthen hb hW
            go_wp2
            go_ret
            exact ⟨ret_bool HNO.out.symm, hbW⟩
          · have hge2 : Op.bytesLess y.1.toList x.1.toList = true := hab
            have hge : (!(Op.bytesLess y.1.toList x.1.toList)) = false := by rw [show Op.bytesLess y.1.toList x.1.toList = true from hab]; rfl
            have HAB := Lib.hid hab
            clear hab
            have hrel1 := Lib.hid (show okTo l (m + 1 + 1) from fun j hj z hz => by
              by_cases hjm : j < m + 1
              · exact HOK.out j hjm z hz
              · obtain rfl : j = m + 1 := by omega
                rw [HX.out] at hz; injection hz with hz; subst hz
                refine ⟨HWT.out, fun y' _ hy' => ?_⟩
                simp only [Nat.add_sub_cancel] at hy'
                rw [HY.out] at hy'; injection hy' with hy'; subst hy'
                exact HAB.out)
            go_wp2_with fail
            refine wp_region_below (by kernel_rfl) (by kernel_rfl) ?_
            iterate 25 (first | go_big_quiet_skip | (refine wpQuiet_step (fun K hK => ?_); go_simp; first | (apply Exists.intro; refine ⟨fun W hW => ?_, hK _ ?_⟩; (first | rfl | (go_at_call 107; exact quiet_call hW (Nat.le_refl _) (HW1.out _ hW)) | (have c0x := (hW.cell (p := ⟨b, o + (m + 1) * 3, none⟩) hbl).trans c0; have d0x := (hW.cell (p := ⟨b, o + m * 3, none⟩) hbl).trans d0; go_simp; rfl)); clear hK K) | (refine hK _ ?_; clear hK K)))
            refine wpQuiet_nil ?_
            intro W hW
            have hbW := bthen hb hW
            go_wp2
            go_roundw
            case rel => exact ⟨m + 1 + 1, by omega, by go_num, hrel1.out, hbW⟩
            case measure => simp [intOf]; omega
    · obtain rfl : k = l.length := by omega
      have HE := Lib.hid (wrsB_end (most := 20) HOK.out)
      by_cases h6 : l.length ≤ 20
      · have d6 : decide ((l.length : Int) ≤ 20) = true := decide_eq_true (by omega)
        have d6n : decide (l.length ≤ 20) = true := decide_eq_true h6
        rw [d6n] at HE
        go_wp2
        go_ret
        exact ⟨ret_bool HE.out.symm, hb⟩
      · have d6 : decide ((l.length : Int) ≤ 20) = false := decide_eq_false (by omega)
        have d6n : decide (l.length ≤ 20) = false := decide_eq_false h6
        rw [d6n] at HE
        go_wp2
        go_ret
        exact ⟨ret_bool HE.out.symm, hb⟩
end Go.Proofs.Ytpjkcmmmpgncmaa
