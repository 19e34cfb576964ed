import Derived.IntWalk
import Derived.BigQuiet
import Derived.Test.YtfmhhckkpenldaaGreatDoorVerB
/- The reference's VersOk. -/
namespace Go.Proofs.YtfmhhckkpenldaaGreatDoor
open Go.RowKit
def OkToS (now : Int) (l : List Ver) (k : Nat) : Prop := ∀ j, j < k → ∀ x, l[j]? = some x → verB x now = true ∧ ∀ y, 0 < j → l[j - 1]? = some y → aheadB y x = true
set_option maxRecDepth 100000 in
set_option maxHeartbeats 4000000 in
theorem specVersOk_any (A : Option Addr) (vs : List Ver) (c : Nat) (now : Int) (w : World) (hn : FitsV vs) (hlen : vs.length ≤ 1048576) (hS : Sl encVer 4 w A vs) :
    Calls Tryz.prog 48 #[.agg #[.int .i64 now, .slice A vs.length c]] w fun e w' => e = .returned (.bool (versB now vs)) ∧ Below w.heap.size w w' := by
  have hbw : Below w.heap.size w (w.alloc (.cells #[.int .i64 now, .slice A vs.length c] 36)) := (Below.refl _ _).alloc (Nat.le_refl _) _
  have hB0 := Blk.new w 36 #[.int .i64 now, .slice A vs.length c]
  have hl2 : vs.length ≤ 9223372036854775807 := by omega
  by_cases hh : 0 ≤ now ∧ now ≤ 40 ∧ vs.length ≤ 60
  · obtain ⟨h1, h2, h3⟩ := hh
    have d1 : decide (now < 0) = false := by simp; omega
    have d2 : decide (40 < now) = false := by simp; omega
    have d3 : decide (60 < (vs.length : Int)) = false := by simp; omega
    go_enter Tryz.func48, Tryz.ntmps48
    go_wp2
    go_loopw [3] (fun i wr => ∃ k : Nat, k ≤ vs.length ∧ i = .int .i64 k ∧ OkToS now vs k ∧ Blk wr w.heap.size 36 #[.int .i64 now, .slice A vs.length c] ∧ Below w.heap.size w wr) (fun i _ => vs.length - (intOf i).toNat)
    case atStart => exact ⟨0, by omega, rfl, fun j h => absurd h (by omega), hB0, hbw⟩
    case round =>
      obtain ⟨k, hk, rfl, hok, hB, hb⟩ := hrel
      have HOK := Lib.hid hok
      clear hok
      have x0 : wr.cell? ⟨w.heap.size, 0, none⟩ = some (.int .i64 now) := hB.cell 0
      have x1 : wr.cell? ⟨w.heap.size, 1, none⟩ = some (.slice A vs.length c) := hB.cell 1
      have hBl := hB.lt
      have hbs := hb.size
      by_cases hlt : k < vs.length
      · obtain ⟨b, o, rfl, hbl, c0, c1, c2, c3⟩ := Sl.at4 (hS.below hb) hlt
        have hx := hn.2 _ (List.getElem_mem hlt)
        have HX := Lib.hid (List.getElem?_eq_getElem hlt)
        generalize vs[k] = x at *
        have HV := Lib.hid (fun w0 : World => specVerOk_any x now w0 hx)
        generalize hvb : verB x now = vb at *
        have HVB := Lib.hid hvb
        have hki : (k : Int) < (vs.length : Int) := by omega
        have hki0 : (0 : Int) ≤ (k : Int) := by omega
        clear hvb
        cases vb
        · have HNO := Lib.hid (versB_no (fun h : VersP now vs => by have := h.2.1 k hlt x HX.out; rw [HVB.out] at this; cases this))
          go_wp2_with fail
          refine wp_region_below (by kernel_rfl) (by kernel_rfl) ?_
          iterate 28 (first | go_big_quiet_skip | (refine wpQuiet_step (fun K hK => ?_); go_simp; first | (apply Exists.intro; refine ⟨fun W hW => ?_, hK _ ?_⟩; (first | rfl | (go_at_call 60; exact quiet_call hW (Nat.le_refl _) (HV.out _)) | (have e0 := (hW.cell (p := ⟨w.heap.size, 0, none⟩) hBl).trans x0; have e1 := (hW.cell (p := ⟨w.heap.size, 1, none⟩) hBl).trans x1; have g0 := (hW.cell (p := ⟨b, o + k * 4, none⟩) hbl).trans c0; have g1 := (hW.cell (p := ⟨b, o + k * 4 + 1, none⟩) hbl).trans c1; have g2 := (hW.cell (p := ⟨b, o + k * 4 + 2, none⟩) hbl).trans c2; have g3 := (hW.cell (p := ⟨b, o + k * 4 + 3, none⟩) hbl).trans c3; go_simp; rfl)); clear hK K) | (refine hK _ ?_; clear hK K)))
          refine wpQuiet_nil ?_
          intro W hW
          have hbW := bthen hb hW
          go_wp2
          go_ret
          exact ⟨ret_bool HNO.out.symm, hbW⟩
        · by_cases hk0 : k = 0
          · subst hk0
            simp only [Nat.zero_mul, Nat.add_zero] at c0 c1 c2 c3
            go_wp2_with fail
            refine wp_region_below (by kernel_rfl) (by kernel_rfl) ?_
            iterate 28 (first | go_big_quiet_skip | (refine wpQuiet_step (fun K hK => ?_); go_simp; first | (apply Exists.intro; refine ⟨fun W hW => ?_, hK _ ?_⟩; (first | rfl | (go_at_call 60; exact quiet_call hW (Nat.le_refl _) (HV.out _)) | (have e0 := (hW.cell (p := ⟨w.heap.size, 0, none⟩) hBl).trans x0; have e1 := (hW.cell (p := ⟨w.heap.size, 1, none⟩) hBl).trans x1; have g0 := (hW.cell (p := ⟨b, o, none⟩) hbl).trans c0; have g1 := (hW.cell (p := ⟨b, o + 1, none⟩) hbl).trans c1; have g2 := (hW.cell (p := ⟨b, o + 2, none⟩) hbl).trans c2; have g3 := (hW.cell (p := ⟨b, o + 3, none⟩) hbl).trans c3; go_simp; rfl)); clear hK K) | (refine hK _ ?_; clear hK K)))
            refine wpQuiet_nil ?_
            intro W hW
            have hbW := bthen hb hW
            go_wp2
            go_roundw
            case rel => exact ⟨1, by omega, by go_num, fun j hj z hz => by
              obtain rfl : j = 0 := by omega
              rw [HX.out] at hz; injection hz with hz; subst hz
              exact ⟨HVB.out, fun y h0 => absurd h0 (by omega)⟩, hB.kept hW, hbW⟩
            case measure => simp [intOf]; omega
          · obtain ⟨m, rfl⟩ : ∃ m, k = m + 1 := ⟨k - 1, by omega⟩
            obtain ⟨b', o', he, hbl', f0, f1, f2, f3⟩ := Sl.at4 (hS.below hb) (show m < vs.length by omega)
            simp at he
            obtain ⟨rfl, rfl⟩ := he
            have HY := Lib.hid (List.getElem?_eq_getElem (show m < vs.length by omega))
            generalize vs[m] = y at *
            have HA := Lib.hid (fun w0 : World => ahead_any y x w0)
            generalize hab : aheadB y x = ab at *
            have HAB := Lib.hid hab
            have q1 : IntKind.i64.wrap (m : Int) = (m : Int) := IntWalk.i64_in _ (by omega)
            have q2 : (m : Int) < (vs.length : Int) := by omega
            have q3 : (0 : Int) ≤ (m : Int) := by omega
            have q4 : (m : Int) + 1 < (vs.length : Int) := by omega
            have q5 : (0 : Int) < (m : Int) + 1 := by omega
            have q6 : ((m : Int) + 1).toNat = m + 1 := by omega
            have q7 : (0 : Int) ≤ (m : Int) + 1 := by omega
            clear hab hki hki0 hk0
            cases ab
            · have HNO := Lib.hid (versB_no (fun h : VersP now vs => by have := h.2.2.1 m (by omega) y x HY.out HX.out; rw [HAB.out] at this; cases this))
              go_wp2_with fail
              refine wp_region_below (by kernel_rfl) (by kernel_rfl) ?_
              iterate 28 (first | go_big_quiet_skip | (refine wpQuiet_step (fun K hK => ?_); go_simp; first | (apply Exists.intro; refine ⟨fun W hW => ?_, hK _ ?_⟩; (first | rfl | (go_at_call 60; exact quiet_call hW (Nat.le_refl _) (HV.out _)) | (go_at_call 61; exact quiet_call hW (Nat.le_refl _) (HA.out _)) | (have e0 := (hW.cell (p := ⟨w.heap.size, 0, none⟩) hBl).trans x0; have e1 := (hW.cell (p := ⟨w.heap.size, 1, none⟩) hBl).trans x1; have g0 := (hW.cell (p := ⟨b, o + (m + 1) * 4, none⟩) hbl).trans c0; have h0 := (hW.cell (p := ⟨b, o + m * 4, none⟩) hbl).trans f0; have g1 := (hW.cell (p := ⟨b, o + (m + 1) * 4 + 1, none⟩) hbl).trans c1; have h1 := (hW.cell (p := ⟨b, o + m * 4 + 1, none⟩) hbl).trans f1; have g2 := (hW.cell (p := ⟨b, o + (m + 1) * 4 + 2, none⟩) hbl).trans c2; have h2 := (hW.cell (p := ⟨b, o + m * 4 + 2, none⟩) hbl).trans f2; have g3 := (hW.cell (p := ⟨b, o + (m + 1) * 4 + 3, none⟩) hbl).trans c3; have h3 := (hW.cell (p := ⟨b, o + m * 4 + 3, none⟩) hbl).trans f3; go_simp; rfl)); clear hK K) | (refine hK _ ?_; clear hK K)))
              refine wpQuiet_nil ?_
              intro W hW
              have hbW := bthen hb hW
              go_wp2
              go_ret
              exact ⟨ret_bool HNO.out.symm, hbW⟩
            · go_wp2_with fail
              refine wp_region_below (by kernel_rfl) (by kernel_rfl) ?_
              iterate 28 (first | go_big_quiet_skip | (refine wpQuiet_step (fun K hK => ?_); go_simp; first | (apply Exists.intro; refine ⟨fun W hW => ?_, hK _ ?_⟩; (first | rfl | (go_at_call 60; exact quiet_call hW (Nat.le_refl _) (HV.out _)) | (go_at_call 61; exact quiet_call hW (Nat.le_refl _) (HA.out _)) | (have e0 := (hW.cell (p := ⟨w.heap.size, 0, none⟩) hBl).trans x0; have e1 := (hW.cell (p := ⟨w.heap.size, 1, none⟩) hBl).trans x1; have g0 := (hW.cell (p := ⟨b, o + (m + 1) * 4, none⟩) hbl).trans c0; have h0 := (hW.cell (p := ⟨b, o + m * 4, none⟩) hbl).trans f0; have g1 := (hW.cell (p := ⟨b, o + (m + 1) * 4 + 1, none⟩) hbl).trans c1; have h1 := (hW.cell (p := ⟨b, o + m * 4 + 1, none⟩) hbl).trans f1; have g2 := (hW.cell (p := ⟨b, o + (m + 1) * 4 + 2, none⟩) hbl).trans c2; have h2 := (hW.cell (p := ⟨b, o + m * 4 + 2, none⟩) hbl).trans f2; have g3 := (hW.cell (p := ⟨b, o + (m + 1) * 4 + 3, none⟩) hbl).trans c3; have h3 := (hW.cell (p := ⟨b, o + m * 4 + 3, none⟩) hbl).trans f3; go_simp; rfl)); clear hK K) | (refine hK _ ?_; clear hK K)))
              refine wpQuiet_nil ?_
              intro W hW
              have hbW := bthen hb hW
              go_wp2
              go_roundw
              case rel => exact ⟨m + 1 + 1, by omega, by go_num, fun j hj z hz => by
                by_cases hjm : j < m + 1
                · exact HOK.out j hjm z hz
                · obtain rfl : j = m + 1 := by omega
                  rw [HX.out] at hz; injection hz with hz; subst hz
                  refine ⟨HVB.out, fun y' _ hy' => ?_⟩
                  simp only [Nat.add_sub_cancel] at hy'
                  rw [HY.out] at hy'; injection hy' with hy'; subst hy'
                  exact HAB.out, hB.kept hW, hbW⟩
              case measure => simp [intOf]; omega
      · obtain rfl : k = vs.length := by omega
        have hb2 := hb
        go_wp2
        go_loopw [4] (fun i wr2 => ∃ k : Nat, i = .int .i64 k ∧ (k : Int) ≤ now + 1 ∧ (∀ t : Nat, t < k → (atL vs t).length ≤ 10) ∧ Blk wr2 w.heap.size 36 #[.int .i64 now, .slice A vs.length c] ∧ Below w.heap.size w wr2) (fun i _ => (now + 1 - intOf i).toNat)
        case atStart => exact ⟨0, rfl, by omega, fun t h => absurd h (by omega), hB, hb⟩
        case round =>
          clear hB hb x0 x1 hBl hbs hb2
          obtain ⟨k, rfl, hk, hto, hB, hb⟩ := hrel
          have HTO := Lib.hid hto
          clear hto
          have x0 : wr.cell? ⟨w.heap.size, 0, none⟩ = some (.int .i64 now) := hB.cell 0
          have x1 : wr.cell? ⟨w.heap.size, 1, none⟩ = some (.slice A vs.length c) := hB.cell 1
          have hBl := hB.lt
          have hbs := hb.size
          by_cases hkn : (k : Int) ≤ now
          · go_wp2_with fail
            refine (l2At_any A vs c now k wr hlen (hS.below hb)).mono ?_
            rintro e w1 ⟨v, rfl, ho, hb1⟩
            obtain ⟨A1, c1, rfl, hl1, hm1, hR1⟩ := Sl.of_own encRow_len ho
            have hb01 := hb.trans (hb1.mono hbs)
            have hB1 := hB.kept hb1
            have hle := atL_le vs k
            clear ho hR1 x0 x1
            by_cases h10 : (atL vs k).length ≤ 10
            · have h10' : decide (10 < ((atL vs k).length : Int)) = false := by simp; omega
              go_wp2
              go_roundw
              case rel => exact ⟨k + 1, by go_num, by omega, fun t ht => by
                by_cases htk : t < k
                · exact HTO.out t htk
                · obtain rfl : t = k := by omega
                  exact h10, hB1, hb01⟩
              case measure => simp [intOf]; omega
            · have h10' : decide (10 < ((atL vs k).length : Int)) = true := by simp; omega
              have HNO := Lib.hid (versB_no (fun h : VersP now vs => h10 (h.2.2.2 k (by omega) hkn)))
              go_wp2
              go_ret
              exact ⟨ret_bool HNO.out.symm, hb01⟩
          · have HYES := Lib.hid (versB_yes (now := now) (l := vs) ⟨⟨h1, h2, h3⟩, fun i hi x hx => (HOK.out i hi x hx).1, fun i hi x y hx hy => by
              have hlt : i + 1 < vs.length := (List.getElem?_eq_some_iff.1 hy).1
              exact (HOK.out (i + 1) hlt y hy).2 x (by omega) (by simpa using hx), fun t ht htn => HTO.out t (by omega)⟩)
            go_wp2
            go_ret
            exact ⟨ret_bool HYES.out.symm, hb⟩
  · have HNO := Lib.hid (versB_no (fun h : VersP now vs => hh h.1))
    by_cases h1 : now < 0
    · have d1 : decide (now < 0) = true := by simp; omega
      go_enter Tryz.func48, Tryz.ntmps48
      go_wp2
      go_ret
      exact ⟨ret_bool HNO.out.symm, hbw⟩
    · have d1 : decide (now < 0) = false := by simp; omega
      by_cases h2 : 40 < now
      · have d2 : decide (40 < now) = true := by simp; omega
        go_enter Tryz.func48, Tryz.ntmps48
        go_wp2
        go_ret
        exact ⟨ret_bool HNO.out.symm, hbw⟩
      · have d2 : decide (40 < now) = false := by simp; omega
        have d3 : decide (60 < (vs.length : Int)) = true := by simp; omega
        go_enter Tryz.func48, Tryz.ntmps48
        go_wp2
        go_ret
        exact ⟨ret_bool HNO.out.symm, hbw⟩
end Go.Proofs.YtfmhhckkpenldaaGreatDoor
