import Derived.Lib.SmallJoins
import Derived.Test.YtpjkcmmmpgncmaaM20
import Derived.IntWalk
import Derived.BigQuiet
import Derived.Test.YtpjkcmmmpgncmaaM04
/- When a store is right; the reference's rows of a time and its VersOk. -/
namespace Go.Proofs.Ytpjkcmmmpgncmaa
open Go.RowKit
theorem infoRow : (Try.prog.info? 111).map (fun i => (i.zero, i.size, i.bytes)) = some (some (.agg #[.string ⟨#[]⟩, .int .i64 0]), 2, 24) := by kernel_rfl
set_option maxHeartbeats 1000000 in
theorem l2At_any (A : Option Addr) (l : List Ver) (c : Nat) (now t : Int) (w : World) (hn : l.length ≤ 1048576) (hR : Sl encVer 4 w A l) :
    Calls Try.prog 60 #[.agg #[.int .i64 now, .slice A l.length c], .int .i64 t] w fun e w' => ∃ v, e = .returned v ∧ w'.ownsRow w.heap.size 111 2 v (atL l t).length ((atL l t).flatMap encRow) ∧ Below w.heap.size w w' := by
  obtain ⟨i0, hi, hz0, hz1, hz2⟩ := info_parts infoRow
  have HI := Lib.hid (⟨hi, hz0, hz1, hz2⟩ : _ ∧ _ ∧ _ ∧ _)
  clear hi hz0 hz1 hz2
  have hB0 := Blk.new (w.alloc (.cells #[.int .i64 now, .slice A l.length c] 32)) 111 #[]
  rw [World.size_alloc] at hB0
  have H0 := Lib.hid (own_of_blk (base := w.heap.size + 1) (n := 0) (k := 2) (xs := []) hB0 (Nat.le_refl _) (Nat.zero_le _) rfl rfl)
  clear hB0
  go_enter Try.func60, Try.ntmps60
  go_wp2
  go_loopw [5, 6] (fun v i wr => ∃ k : Nat, k ≤ l.length ∧ i = .int .i64 k ∧ Blk wr w.heap.size 32 #[.int .i64 now, .slice A l.length c] ∧ wr.ownsRow (w.heap.size + 1) 111 2 v (atL (l.take k) t).length ((atL (l.take k) t).flatMap encRow) ∧ Below w.heap.size w wr) (fun _ i _ => l.length - (intOf i).toNat)
  case atStart => exact ⟨0, by omega, rfl, (Blk.new _ _ _).alloc _, H0.out, ((Below.refl _ _).alloc (Nat.le_refl _) _).alloc (by simp) _⟩
  case round =>
    obtain ⟨k, hk, rfl, hB, hown, hb⟩ := hrel
    have x1 : wr.cell? ⟨w.heap.size, 1, none⟩ = some (.slice A l.length c) := hB.cell 1
    have hbs := hb.size
    have hBl := hB.lt
    by_cases hlt : k < l.length
    · obtain ⟨b, o, rfl, hbl, c0, c1, c2, c3⟩ := Sl.at4 (hR.below hb) hlt
      have hle := atL_le (l.take k) t
      have hle2 : (l.take k).length ≤ k := List.length_take_le _ _
      by_cases hv : visB l[k] t = true
      · have HL := Lib.hid (atL_take_yes hlt hv)
        have hv' := hv
        unfold visB at hv'
        simp only [Bool.and_eq_true, Bool.or_eq_true, decide_eq_true_eq] at hv'
        generalize l[k] = x at *
        obtain ⟨kk, n, fr, to⟩ := x
        simp only at c0 c1 c2 c3 hv'
        have hown1 := ((hown.alloc (.cells #[.string kk, .int .i64 n, .int .i64 fr, .int .i64 to] 88)).alloc (.cells #[.string kk, .int .i64 n] 111))
        have hnew := new_cells (wr.alloc (.cells #[.string kk, .int .i64 n, .int .i64 fr, .int .i64 to] 88)) [.string kk, .int .i64 n] 111
        rw [World.size_alloc] at hnew
        have hlt5 := Lib.hid hown.lt
        generalize hL : (atL (l.take k) t) = L at *
        have HLL := Lib.hid hL
        have hle3 : L.length ≤ k := by omega
        have HBa := Lib.hid ((hB.alloc (.cells #[.string kk, .int .i64 n, .int .i64 fr, .int .i64 to] 88)).alloc (.cells #[.string kk, .int .i64 n] 111))
        have hba := (hb.alloc hbs (.cells #[.string kk, .int .i64 n, .int .i64 fr, .int .i64 to] 88)).alloc (by simp; omega) (.cells #[.string kk, .int .i64 n] 111)
        obtain ⟨hv1, hv2⟩ := hv'
        clear hL hv hR hle
        rcases hv2 with hv2 | hv2
        · subst hv2
          go_wp2_with (at_builtin; refine wpList_append_own _ rfl (.tmp 36) (.tmp 42) 68 rfl (w.heap.size + 1) 111 i0 _ 2 24 Try.underlying68 HI.out.1 HI.out.2.1 HI.out.2.2.1 HI.out.2.2.2 rfl (by decide) u5 L.length (L.flatMap encRow) rfl hown1 ⟨wr.heap.size + 1, 0, none⟩ 1 1 [.string kk, .int .i64 n] rfl rfl hnew (by simp [Value.oneCell']) (by unfold maxLen; omega) (by omega) (by simp; omega) ?_; intro v' w2 hown2 hgrow _)
          go_roundw
          case rel => exact ⟨k + 1, by omega, by go_num, HBa.out.grown hgrow (fun e => by have := (hlt5.out _ e.symm).1; omega), by rw [HL.out]; simpa [encRow] using hown2, below_own hba hgrow (by simp; omega) (fun g hg => by have := (hlt5.out g hg).1; omega)⟩
          case measure => simp [intOf]; omega
        · by_cases hto : to = 0
          · subst hto
            go_wp2_with (at_builtin; refine wpList_append_own _ rfl (.tmp 36) (.tmp 42) 68 rfl (w.heap.size + 1) 111 i0 _ 2 24 Try.underlying68 HI.out.1 HI.out.2.1 HI.out.2.2.1 HI.out.2.2.2 rfl (by decide) u5 L.length (L.flatMap encRow) rfl hown1 ⟨wr.heap.size + 1, 0, none⟩ 1 1 [.string kk, .int .i64 n] rfl rfl hnew (by simp [Value.oneCell']) (by unfold maxLen; omega) (by omega) (by simp; omega) ?_; intro v' w2 hown2 hgrow _)
            go_roundw
            case rel => exact ⟨k + 1, by omega, by go_num, HBa.out.grown hgrow (fun e => by have := (hlt5.out _ e.symm).1; omega), by rw [HL.out]; simpa [encRow] using hown2, below_own hba hgrow (by simp; omega) (fun g hg => by have := (hlt5.out g hg).1; omega)⟩
            case measure => simp [intOf]; omega
          · have hto' : (to == 0) = false := by simpa using hto
            go_wp2_with (at_builtin; refine wpList_append_own _ rfl (.tmp 36) (.tmp 42) 68 rfl (w.heap.size + 1) 111 i0 _ 2 24 Try.underlying68 HI.out.1 HI.out.2.1 HI.out.2.2.1 HI.out.2.2.2 rfl (by decide) u5 L.length (L.flatMap encRow) rfl hown1 ⟨wr.heap.size + 1, 0, none⟩ 1 1 [.string kk, .int .i64 n] rfl rfl hnew (by simp [Value.oneCell']) (by unfold maxLen; omega) (by omega) (by simp; omega) ?_; intro v' w2 hown2 hgrow _)
            go_roundw
            case rel => exact ⟨k + 1, by omega, by go_num, HBa.out.grown hgrow (fun e => by have := (hlt5.out _ e.symm).1; omega), by rw [HL.out]; simpa [encRow] using hown2, below_own hba hgrow (by simp; omega) (fun g hg => by have := (hlt5.out g hg).1; omega)⟩
            case measure => simp [intOf]; omega
      · have hvf : visB l[k] t = false := by simpa using hv
        have HL := Lib.hid (atL_take_no hlt hvf)
        have hv' := hvf
        unfold visB at hv'
        generalize l[k] = x at *
        obtain ⟨kk, n, fr, to⟩ := x
        simp only at c0 c1 c2 c3 hv'
        have HO := Lib.hid (hown.alloc (.cells #[.string kk, .int .i64 n, .int .i64 fr, .int .i64 to] 88))
        have HBa := Lib.hid (hB.alloc (.cells #[.string kk, .int .i64 n, .int .i64 fr, .int .i64 to] 88))
        have hba := hb.alloc hbs (.cells #[.string kk, .int .i64 n, .int .i64 fr, .int .i64 to] 88)
        clear hv hvf hown hR
        by_cases hfr : fr ≤ t
        · have d1 : decide (fr ≤ t) = true := by simpa using hfr
          have h2 : to ≠ 0 ∧ to ≤ t := by simp [hfr] at hv'; exact hv'
          have d2 : (to == 0) = false := by simpa using h2.1
          have d3 : decide (t < to) = false := by simp; exact h2.2
          clear hv' h2
          go_wp2
          go_roundw
          case rel => exact ⟨k + 1, by omega, by go_num, HBa.out, by rw [HL.out]; exact HO.out, hba⟩
          case measure => simp [intOf]; omega
        · have d1 : decide (fr ≤ t) = false := by simpa using hfr
          clear hv'
          go_wp2
          go_roundw
          case rel => exact ⟨k + 1, by omega, by go_num, HBa.out, by rw [HL.out]; exact HO.out, hba⟩
          case measure => simp [intOf]; omega
    · obtain rfl : k = l.length := by omega
      rw [List.take_length] at hown
      go_wp2
      go_ret
      exact ⟨u5, rfl, Go.Joins.ownsRow_le hown (by omega), hb⟩
end Go.Proofs.Ytpjkcmmmpgncmaa
/- The reference's VersOk. -/
namespace Go.Proofs.Ytpjkcmmmpgncmaa
open Go.RowKit
def OkToS (now : Int) (l : List Ver) (k : Nat) : Prop := ∀ j, j < k → ∀ x, l[j]? = some x → verB x now = true ∧ ∀ y, 0 < j → l[j - 1]? = some y → aheadB y x = true
set_option maxRecDepth 100000 in
set_option maxHeartbeats 4000000 in
theorem specVersOk_any (A : Option Addr) (vs : List Ver) (c : Nat) (now : Int) (w : World) (hn : FitsV vs) (hlen : vs.length ≤ 1048576) (hS : Sl encVer 4 w A vs) :
    Calls Try.prog 28 #[.agg #[.int .i64 now, .slice A vs.length c]] w fun e w' => e = .returned (.bool (versB now vs)) ∧ Below w.heap.size w w' := by
  have hbw : Below w.heap.size w (w.alloc (.cells #[.int .i64 now, .slice A vs.length c] 32)) := (Below.refl _ _).alloc (Nat.le_refl _) _
  have hB0 := Blk.new w 32 #[.int .i64 now, .slice A vs.length c]
  have hl2 : vs.length ≤ 9223372036854775807 := by omega
  by_cases hh : 0 ≤ now ∧ now ≤ 40 ∧ vs.length ≤ 60
  · obtain ⟨h1, h2, h3⟩ := hh
    have d1 : decide (now < 0) = false := by simp; omega
    have d2 : decide (40 < now) = false := by simp; omega
    have d3 : decide (60 < (vs.length : Int)) = false := by simp; omega
    go_enter Try.func28, Try.ntmps28
    go_wp2
    go_loopw [3] (fun i wr => ∃ k : Nat, k ≤ vs.length ∧ i = .int .i64 k ∧ OkToS now vs k ∧ Blk wr w.heap.size 32 #[.int .i64 now, .slice A vs.length c] ∧ Below w.heap.size w wr) (fun i _ => vs.length - (intOf i).toNat)
    case atStart => exact ⟨0, by omega, rfl, fun j h => absurd h (by omega), hB0, hbw⟩
    case round =>
      obtain ⟨k, hk, rfl, hok, hB, hb⟩ := hrel
      have HOK := Lib.hid hok
      clear hok
      have x0 : wr.cell? ⟨w.heap.size, 0, none⟩ = some (.int .i64 now) := hB.cell 0
      have x1 : wr.cell? ⟨w.heap.size, 1, none⟩ = some (.slice A vs.length c) := hB.cell 1
      have hBl := hB.lt
      have hbs := hb.size
      by_cases hlt : k < vs.length
      · obtain ⟨b, o, rfl, hbl, c0, c1, c2, c3⟩ := Sl.at4 (hS.below hb) hlt
        have hx := hn.2 _ (List.getElem_mem hlt)
        have HX := Lib.hid (List.getElem?_eq_getElem hlt)
        generalize vs[k] = x at *
        have HV := Lib.hid (fun w0 : World => specVerOk_any x now w0 hx)
        generalize hvb : verB x now = vb at *
        have HVB := Lib.hid hvb
        have hki : (k : Int) < (vs.length : Int) := by omega
        have hki0 : (0 : Int) ≤ (k : Int) := by omega
        clear hvb
        cases vb
        · have HNO := Lib.hid (versB_no (fun h : VersP now vs => by have := h.2.1 k hlt x HX.out; rw [HVB.out] at this; cases this))
          go_wp2_with fail
          refine wp_region_below (by kernel_rfl) (by kernel_rfl) ?_
          iterate 28 (first | go_big_quiet_skip | (refine wpQuiet_step (fun K hK => ?_); go_simp; first | (apply Exists.intro; refine ⟨fun W hW => ?_, hK _ ?_⟩; (first | rfl | (go_at_call 58; exact quiet_call hW (Nat.le_refl _) (HV.out _)) | (have e0 := (hW.cell (p := ⟨w.heap.size, 0, none⟩) hBl).trans x0; have e1 := (hW.cell (p := ⟨w.heap.size, 1, none⟩) hBl).trans x1; have g0 := (hW.cell (p := ⟨b, o + k * 4, none⟩) hbl).trans c0; have g1 := (hW.cell (p := ⟨b, o + k * 4 + 1, none⟩) hbl).trans c1; have g2 := (hW.cell (p := ⟨b, o + k * 4 + 2, none⟩) hbl).trans c2; have g3 := (hW.cell (p := ⟨b, o + k * 4 + 3, none⟩) hbl).trans c3; go_simp; rfl)); clear hK K) | (refine hK _ ?_; clear hK K)))
          refine wpQuiet_nil ?_
          intro W hW
          have hbW := bthen hb hW
          go_wp2
          go_ret
          exact ⟨ret_bool HNO.out.symm, hbW⟩
        · by_cases hk0 : k = 0
          · subst hk0
            simp only [Nat.zero_mul, Nat.add_zero] at c0 c1 c2 c3
            go_wp2_with fail
            refine wp_region_below (by kernel_rfl) (by kernel_rfl) ?_
            iterate 28 (first | go_big_quiet_skip | (refine wpQuiet_step (fun K hK => ?_); go_simp; first | (apply Exists.intro; refine ⟨fun W hW => ?_, hK _ ?_⟩; (first | rfl | (go_at_call 58; exact quiet_call hW (Nat.le_refl _) (HV.out _)) | (have e0 := (hW.cell (p := ⟨w.heap.size, 0, none⟩) hBl).trans x0; have e1 := (hW.cell (p := ⟨w.heap.size, 1, none⟩) hBl).trans x1; have g0 := (hW.cell (p := ⟨b, o, none⟩) hbl).trans c0; have g1 := (hW.cell (p := ⟨b, o + 1, none⟩) hbl).trans c1; have g2 := (hW.cell (p := ⟨b, o + 2, none⟩) hbl).trans c2; have g3 := (hW.cell (p := ⟨b, o + 3, none⟩) hbl).trans c3; go_simp; rfl)); clear hK K) | (refine hK _ ?_; clear hK K)))
            refine wpQuiet_nil ?_
            intro W hW
            have hbW := bthen hb hW
            go_wp2
            go_roundw
            case rel => exact ⟨1, by omega, by go_num, fun j hj z hz => by
              obtain rfl : j = 0 := by omega
              rw [HX.out] at hz; injection hz with hz; subst hz
              exact ⟨HVB.out, fun y h0 => absurd h0 (by omega)⟩, hB.kept hW, hbW⟩
            case measure => simp [intOf]; omega
          · obtain ⟨m, rfl⟩ : ∃ m, k = m + 1 := ⟨k - 1, by omega⟩
            obtain ⟨b', o', he, hbl', f0, f1, f2, f3⟩ := Sl.at4 (hS.below hb) (show m < vs.length by omega)
            simp at he
            obtain ⟨rfl, rfl⟩ := he
            have HY := Lib.hid (List.getElem?_eq_getElem (show m < vs.length by omega))
            generalize vs[m] = y at *
            have HA := Lib.hid (fun w0 : World => ahead_any y x w0)
            generalize hab : aheadB y x = ab at *
            have HAB := Lib.hid hab
            have q1 : IntKind.i64.wrap (m : Int) = (m : Int) := IntWalk.i64_in _ (by omega)
            have q2 : (m : Int) < (vs.length : Int) := by omega
            have q3 : (0 : Int) ≤ (m : Int) := by omega
            have q4 : (m : Int) + 1 < (vs.length : Int) := by omega
            have q5 : (0 : Int) < (m : Int) + 1 := by omega
            have q6 : ((m : Int) + 1).toNat = m + 1 := by omega
            have q7 : (0 : Int) ≤ (m : Int) + 1 := by omega
            clear hab hki hki0 hk0
            cases ab
            · have HNO := Lib.hid (versB_no (fun h : VersP now vs => by have := h.2.2.1 m (by omega) y x HY.out HX.out; rw [HAB.out] at this; cases this))
              go_wp2_with fail
              refine wp_region_below (by kernel_rfl) (by kernel_rfl) ?_
              iterate 28 (first | go_big_quiet_skip | (refine wpQuiet_step (fun K hK => ?_); go_simp; first | (apply Exists.intro; refine ⟨fun W hW => ?_, hK _ ?_⟩; (first | rfl | (go_at_call 58; exact quiet_call hW (Nat.le_refl _) (HV.out _)) | (go_at_call 59; exact quiet_call hW (Nat.le_refl _) (HA.out _)) | (have e0 := (hW.cell (p := ⟨w.heap.size, 0, none⟩) hBl).trans x0; have e1 := (hW.cell (p := ⟨w.heap.size, 1, none⟩) hBl).trans x1; have g0 := (hW.cell (p := ⟨b, o + (m + 1) * 4, none⟩) hbl).trans c0; have h0 := (hW.cell (p := ⟨b, o + m * 4, none⟩) hbl).trans f0; have g1 := (hW.cell (p := ⟨b, o + (m + 1) * 4 + 1, none⟩) hbl).trans c1; have h1 := (hW.cell (p := ⟨b, o + m * 4 + 1, none⟩) hbl).trans f1; have g2 := (hW.cell (p := ⟨b, o + (m + 1) * 4 + 2, none⟩) hbl).trans c2; have h2 := (hW.cell (p := ⟨b, o + m * 4 + 2, none⟩) hbl).trans f2; have g3 := (hW.cell (p := ⟨b, o + (m + 1) * 4 + 3, none⟩) hbl).trans c3; have h3 := (hW.cell (p := ⟨b, o + m * 4 + 3, none⟩) hbl).trans f3; go_simp; rfl)); clear hK K) | (refine hK _ ?_; clear hK K)))
              refine wpQuiet_nil ?_
              intro W hW
              have hbW := bthen hb hW
              go_wp2
              go_ret
              exact ⟨ret_bool HNO.out.symm, hbW⟩
            · go_wp2_with fail
              refine wp_region_below (by kernel_rfl) (by kernel_rfl) ?_
              iterate 28 (first | go_big_quiet_skip | (refine wpQuiet_step (fun K hK => ?_); go_simp; first | (apply Exists.intro; refine ⟨fun W hW => ?_, hK _ ?_⟩; (first | rfl | (go_at_call 58; exact quiet_call hW (Nat.le_refl _) (HV.out _)) | (go_at_call 59; exact quiet_call hW (Nat.le_refl _) (HA.out _)) | (have e0 := (hW.cell (p := ⟨w.heap.size, 0, none⟩) hBl).trans x0; have e1 := (hW.cell (p := ⟨w.heap.size, 1, none⟩) hBl).trans x1; have g0 := (hW.cell (p := ⟨b, o + (m + 1) * 4, none⟩) hbl).trans c0; have h0 := (hW.cell (p := ⟨b, o + m * 4, none⟩) hbl).trans f0; have g1 := (hW.cell (p := ⟨b, o + (m + 1) * 4 + 1, none⟩) hbl).trans c1; have h1 := (hW.cell (p := ⟨b, o + m * 4 + 1, none⟩) hbl).trans f1; have g2 := (hW.cell (p := ⟨b, o + (m + 1) * 4 + 2, none⟩) hbl).trans c2; have h2 := (hW.cell (p := ⟨b, o + m * 4 + 2, none⟩) hbl).trans f2; have g3 := (hW.cell (p := ⟨b, o + (m + 1) * 4 + 3, none⟩) hbl).trans c3; have h3 := (hW.cell (p := ⟨b, o + m * 4 + 3, none⟩) hbl).trans f3; go_simp; rfl)); clear hK K) | (refine hK _ ?_; clear hK K)))
              refine wpQuiet_nil ?_
              intro W hW
              have hbW := bthen hb hW
              go_wp2
              go_roundw
              case rel => exact ⟨m + 1 + 1, by omega, by go_num, fun j hj z hz => by
                by_cases hjm : j < m + 1
                · exact HOK.out j hjm z hz
                · obtain rfl : j = m + 1 := by omega
                  rw [HX.out] at hz; injection hz with hz; subst hz
                  refine ⟨HVB.out, fun y' _ hy' => ?_⟩
                  simp only [Nat.add_sub_cancel] at hy'
                  rw [HY.out] at hy'; injection hy' with hy'; subst hy'
                  exact HAB.out, hB.kept hW, hbW⟩
              case measure => simp [intOf]; omega
      · obtain rfl : k = vs.length := by omega
        have hb2 := hb
        go_wp2
        go_loopw [4] (fun i wr2 => ∃ k : Nat, i = .int .i64 k ∧ (k : Int) ≤ now + 1 ∧ (∀ t : Nat, t < k → (atL vs t).length ≤ 10) ∧ Blk wr2 w.heap.size 32 #[.int .i64 now, .slice A vs.length c] ∧ Below w.heap.size w wr2) (fun i _ => (now + 1 - intOf i).toNat)
        case atStart => exact ⟨0, rfl, by omega, fun t h => absurd h (by omega), hB, hb⟩
        case round =>
          clear hB hb x0 x1 hBl hbs hb2
          obtain ⟨k, rfl, hk, hto, hB, hb⟩ := hrel
          have HTO := Lib.hid hto
          clear hto
          have x0 : wr.cell? ⟨w.heap.size, 0, none⟩ = some (.int .i64 now) := hB.cell 0
          have x1 : wr.cell? ⟨w.heap.size, 1, none⟩ = some (.slice A vs.length c) := hB.cell 1
          have hBl := hB.lt
          have hbs := hb.size
          by_cases hkn : (k : Int) ≤ now
          · go_wp2_with fail
            refine (l2At_any A vs c now k wr hlen (hS.below hb)).mono ?_
            rintro e w1 ⟨v, rfl, ho, hb1⟩
            obtain ⟨A1, c1, rfl, hl1, hm1, hR1⟩ := Sl.of_own encRow_len ho
            have hb01 := hb.trans (hb1.mono hbs)
            have hB1 := hB.kept hb1
            have hle := atL_le vs k
            clear ho hR1 x0 x1
            by_cases h10 : (atL vs k).length ≤ 10
            · have h10' : decide (10 < ((atL vs k).length : Int)) = false := by simp; omega
              go_wp2
              go_roundw
              case rel => exact ⟨k + 1, by go_num, by omega, fun t ht => by
                by_cases htk : t < k
                · exact HTO.out t htk
                · obtain rfl : t = k := by omega
                  exact h10, hB1, hb01⟩
              case measure => simp [intOf]; omega
            · have h10' : decide (10 < ((atL vs k).length : Int)) = true := by simp; omega
              have HNO := Lib.hid (versB_no (fun h : VersP now vs => h10 (h.2.2.2 k (by omega) hkn)))
              go_wp2
              go_ret
              exact ⟨ret_bool HNO.out.symm, hb01⟩
          · have HYES := Lib.hid (versB_yes (now := now) (l := vs) ⟨⟨h1, h2, h3⟩, fun i hi x hx => (HOK.out i hi x hx).1, fun i hi x y hx hy => by
              have hlt : i + 1 < vs.length := (List.getElem?_eq_some_iff.1 hy).1
              exact (HOK.out (i + 1) hlt y hy).2 x (by omega) (by simpa using hx), fun t ht htn => HTO.out t (by omega)⟩)
            go_wp2
            go_ret
            exact ⟨ret_bool HYES.out.symm, hb⟩
  · have HNO := Lib.hid (versB_no (fun h : VersP now vs => hh h.1))
    by_cases h1 : now < 0
    · have d1 : decide (now < 0) = true := by simp; omega
      go_enter Try.func28, Try.ntmps28
      go_wp2
      go_ret
      exact ⟨ret_bool HNO.out.symm, hbw⟩
    · have d1 : decide (now < 0) = false := by simp; omega
      by_cases h2 : 40 < now
      · have d2 : decide (40 < now) = true := by simp; omega
        go_enter Try.func28, Try.ntmps28
        go_wp2
        go_ret
        exact ⟨ret_bool HNO.out.symm, hbw⟩
      · have d2 : decide (40 < now) = false := by simp; omega
        have d3 : decide (60 < (vs.length : Int)) = true := by simp; omega
        go_enter Try.func28, Try.ntmps28
        go_wp2
        go_ret
        exact ⟨ret_bool HNO.out.symm, hbw⟩
end Go.Proofs.Ytpjkcmmmpgncmaa
/- The reference's AskOk: what it lets pass has short keys, a kind and a number within bounds. -/
namespace Go.Proofs.Ytpjkcmmmpgncmaa
open Go.RowKit
/-- what is known of something that one may ask -/
def AskP (x : AskV) : Prop := 1 ≤ x.1 ∧ x.1 ≤ 9 ∧ x.2.1.size ≤ 2 ∧ x.2.2.1.size ≤ 2 ∧ -999 ≤ x.2.2.2 ∧ x.2.2.2 ≤ 999
/-- how AskOk leaves -/
def AskPost (x : AskV) (w : World) (e : Ending) (w' : World) : Prop := ∃ v : Bool, e = .returned (.bool v) ∧ (v = true → AskP x) ∧ Below w.heap.size w w'
theorem AskPost.no {x : AskV} {w w' : World} (h : Below w.heap.size w w') : AskPost x w (.returned (.bool false)) w' := ⟨_, rfl, fun h => by simp at h, h⟩
theorem AskPost.yes {x : AskV} {w w' : World} (hp : AskP x) (h : Below w.heap.size w w') : AskPost x w (.returned (.bool true)) w' := ⟨_, rfl, fun _ => hp, h⟩
theorem nil_size {a : ByteArray} (h : a.toList = []) : a.size ≤ 2 := by
  have h1 : a.data.toList = [] := by rw [← ByteArray.toList_eq]; exact h
  have h2 : a.data.toList.length = 0 := by rw [h1]; rfl
  have h3 : a.data.toList.length = a.size := by rw [Array.length_toList]; rfl
  omega
theorem numB_in {n : Int} (h : numB n = true) : -999 ≤ n ∧ n ≤ 999 := by unfold numB at h; simpa using h
set_option maxRecDepth 100000 in
set_option maxHeartbeats 4000000 in
theorem specAskOk_any (x : AskV) (w : World) (ha : x.2.1.size ≤ maxLen) (hb : x.2.2.1.size ≤ maxLen) :
    Calls Try.prog 189 #[.agg #[.int .i64 x.1, .string x.2.1, .string x.2.2.1, .int .i64 x.2.2.2]] w fun e w' => AskPost x w e w' := by
  obtain ⟨k, a, b, n⟩ := x
  simp only at ha hb ⊢
  have hb0 := (Below.refl w.heap.size w).alloc (Nat.le_refl _) (.cells #[.int .i64 k, .string a, .string b, .int .i64 n] 128)
  by_cases hk1 : k < 1
  · have d1 : decide (k < 1) = true := decide_eq_true hk1
    go_enter Try.func189, Try.ntmps189
    go_wp2
    go_ret
    exact AskPost.no hb0
  by_cases hk9 : 9 < k
  · have d1 : decide (k < 1) = false := decide_eq_false hk1
    have d2 : decide (9 < k) = true := decide_eq_true hk9
    go_enter Try.func189, Try.ntmps189
    go_wp2
    go_ret
    exact AskPost.no hb0
  have HK := Lib.hid (show 1 ≤ k ∧ k ≤ 9 from ⟨by omega, by omega⟩)
  have d1 : decide (k < 1) = false := decide_eq_false hk1
  have d2 : decide (9 < k) = false := decide_eq_false hk9
  have HC := Lib.hid (l4Shape_any k (w.alloc (.cells #[.int .i64 k, .string a, .string b, .int .i64 n] 128)))
  have hB := Blk.new w 128 #[.int .i64 k, .string a, .string b, .int .i64 n]
  generalize shapeK k = s at *
  obtain ⟨s1, s2, s3⟩ := s
  have HKA := Lib.hid (fun W => specKeyOk_any a W ha)
  have HKB := Lib.hid (fun W => specKeyOk_any b W hb)
  have HKN := Lib.hid (fun W => specNumOk_any n W)
  have HSA := Lib.hid (fun h : keyB a = true => keyB_size h)
  have HSB := Lib.hid (fun h : keyB b = true => keyB_size h)
  have HSN := Lib.hid (fun h : numB n = true => numB_in h)
  generalize keyB a = ka at *
  generalize keyB b = kb at *
  generalize numB n = nb at *
  clear hk1 hk9 ha hb
  go_enter Try.func189, Try.ntmps189
  go_wp2_with fail
  generalize w.alloc (.cells #[.int .i64 k, .string a, .string b, .int .i64 n] 128) = w0 at *
  refine HC.out.mono ?_
  rintro e w1 ⟨rfl, hb1⟩
  have hB1 := hB.kept hb1
  have x1 : w1.cell? ⟨w.heap.size, 1, none⟩ = some (.string a) := hB1.cell 1
  have x2 : w1.cell? ⟨w.heap.size, 2, none⟩ = some (.string b) := hB1.cell 2
  have x3 : w1.cell? ⟨w.heap.size, 3, none⟩ = some (.int .i64 n) := hB1.cell 3
  have HBE := Lib.hid (bthen hb0 hb1)
  clear HC hB hB1 hb0 hb1
  by_cases ea : a.toList = []
  · have da : (a.toList == []) = true := beq_iff_eq.2 ea
    cases s1
    case true =>
      go_wp2
      go_ret
      exact AskPost.no HBE.out
    have HA := Lib.hid (nil_size ea)
    by_cases eb : b.toList = []
    · have db : (b.toList == []) = true := beq_iff_eq.2 eb
      cases s2
      case true =>
        go_wp2
        go_ret
        exact AskPost.no HBE.out
      have HB := Lib.hid (nil_size eb)
      cases s3
      case true =>
        go_wp2_with fail
        refine (HKN.out _).mono ?_
        rintro e W ⟨rfl, rfl⟩
        cases nb
        · go_wp2
          all_goals
            go_ret
            exact AskPost.no HBE.out
        · have HN := Lib.hid (HSN.out rfl)
          go_wp2
          go_ret
          exact AskPost.yes ⟨HK.out.1, HK.out.2, HA.out, HB.out, HN.out.1, HN.out.2⟩ HBE.out
      by_cases e0 : n = 0
      · subst e0
        go_wp2
        go_ret
        exact AskPost.yes ⟨HK.out.1, HK.out.2, HA.out, HB.out, by simp, by simp⟩ HBE.out
      · have dn : (n == 0) = false := by simpa using e0
        go_wp2
        go_ret
        exact AskPost.no HBE.out
    · have db : (b.toList == []) = false := beq_eq_false_iff_ne.2 eb
      cases s2
      case false =>
        go_wp2
        go_ret
        exact AskPost.no HBE.out
      go_wp2_with fail
      refine (HKB.out _).mono ?_
      rintro e W ⟨rfl, rfl⟩
      cases kb
      case false =>
        go_wp2
        go_ret
        exact AskPost.no HBE.out
      have HB := Lib.hid (HSB.out rfl)
      cases s3
      case true =>
        go_wp2_with fail
        refine (HKN.out _).mono ?_
        rintro e W ⟨rfl, rfl⟩
        cases nb
        · go_wp2
          all_goals
            go_ret
            exact AskPost.no HBE.out
        · have HN := Lib.hid (HSN.out rfl)
          go_wp2
          go_ret
          exact AskPost.yes ⟨HK.out.1, HK.out.2, HA.out, HB.out, HN.out.1, HN.out.2⟩ HBE.out
      by_cases e0 : n = 0
      · subst e0
        go_wp2
        go_ret
        exact AskPost.yes ⟨HK.out.1, HK.out.2, HA.out, HB.out, by simp, by simp⟩ HBE.out
      · have dn : (n == 0) = false := by simpa using e0
        go_wp2
        go_ret
        exact AskPost.no HBE.out
  · have da : (a.toList == []) = false := beq_eq_false_iff_ne.2 ea
    cases s1
    case false =>
      go_wp2
      go_ret
      exact AskPost.no HBE.out
    go_wp2_with fail
    refine (HKA.out w1).mono ?_
    rintro e W ⟨rfl, rfl⟩
    cases ka
    case false =>
      go_wp2
      go_ret
      exact AskPost.no HBE.out
    have HA := Lib.hid (HSA.out rfl)
    by_cases eb : b.toList = []
    · have db : (b.toList == []) = true := beq_iff_eq.2 eb
      cases s2
      case true =>
        go_wp2
        go_ret
        exact AskPost.no HBE.out
      have HB := Lib.hid (nil_size eb)
      cases s3
      case true =>
        go_wp2_with fail
        refine (HKN.out _).mono ?_
        rintro e W ⟨rfl, rfl⟩
        cases nb
        · go_wp2
          all_goals
            go_ret
            exact AskPost.no HBE.out
        · have HN := Lib.hid (HSN.out rfl)
          go_wp2
          go_ret
          exact AskPost.yes ⟨HK.out.1, HK.out.2, HA.out, HB.out, HN.out.1, HN.out.2⟩ HBE.out
      by_cases e0 : n = 0
      · subst e0
        go_wp2
        go_ret
        exact AskPost.yes ⟨HK.out.1, HK.out.2, HA.out, HB.out, by simp, by simp⟩ HBE.out
      · have dn : (n == 0) = false := by simpa using e0
        go_wp2
        go_ret
        exact AskPost.no HBE.out
    · have db : (b.toList == []) = false := beq_eq_false_iff_ne.2 eb
      cases s2
      case false =>
        go_wp2
        go_ret
        exact AskPost.no HBE.out
      go_wp2_with fail
      refine (HKB.out _).mono ?_
      rintro e W ⟨rfl, rfl⟩
      cases kb
      case false =>
        go_wp2
        go_ret
        exact AskPost.no HBE.out
      have HB := Lib.hid (HSB.out rfl)
      cases s3
      case true =>
        go_wp2_with fail
        refine (HKN.out _).mono ?_
        rintro e W ⟨rfl, rfl⟩
        cases nb
        · go_wp2
          all_goals
            go_ret
            exact AskPost.no HBE.out
        · have HN := Lib.hid (HSN.out rfl)
          go_wp2
          go_ret
          exact AskPost.yes ⟨HK.out.1, HK.out.2, HA.out, HB.out, HN.out.1, HN.out.2⟩ HBE.out
      by_cases e0 : n = 0
      · subst e0
        go_wp2
        go_ret
        exact AskPost.yes ⟨HK.out.1, HK.out.2, HA.out, HB.out, by simp, by simp⟩ HBE.out
      · have dn : (n == 0) = false := by simpa using e0
        go_wp2
        go_ret
        exact AskPost.no HBE.out
end Go.Proofs.Ytpjkcmmmpgncmaa
/- The reference's AskText: a short string. -/
namespace Go.Proofs.Ytpjkcmmmpgncmaa
open Go.RowKit
/-- a string of some size -/
def TextPost (c : Nat) (w : World) (e : Ending) (w' : World) : Prop := ∃ s : ByteArray, e = .returned (.string s) ∧ s.size ≤ c ∧ Below w.heap.size w w'
/-- AskText: nothing, or of something that may be asked -/
def AskTextPost (x : AskV) (w : World) (e : Ending) (w' : World) : Prop := ∃ s : ByteArray, e = .returned (.string s) ∧ s.size ≤ 1000020 ∧ (s = ⟨#[]⟩ ∨ AskP x) ∧ Below w.heap.size w w'
theorem AskTextPost.no {x : AskV} {w w' : World} (h : Below w.heap.size w w') : AskTextPost x w (.returned (.string ⟨#[]⟩)) w' := ⟨_, rfl, by decide, .inl rfl, h⟩
theorem AskTextPost.yes {x : AskV} {s : ByteArray} {w w' : World} (h : Below w.heap.size w w') (hp : AskP x) (hs : s.size ≤ 1000020) : AskTextPost x w (.returned (.string s)) w' := ⟨_, rfl, hs, .inr hp, h⟩
theorem TextPost.mk {c : Nat} {s : ByteArray} {w w' : World} (h : Below w.heap.size w w') (hs : s.size ≤ c) : TextPost c w (.returned (.string s)) w' := ⟨_, rfl, hs, h⟩
set_option maxRecDepth 100000 in
set_option maxHeartbeats 4000000 in
theorem specAskText_any (x : AskV) (w : World) (ha : x.2.1.size ≤ maxLen) (hb : x.2.2.1.size ≤ maxLen) :
    Calls Try.prog 159 #[.agg #[.int .i64 x.1, .string x.2.1, .string x.2.2.1, .int .i64 x.2.2.2]] w (AskTextPost x w) := by
  obtain ⟨k, a, b, n⟩ := x
  simp only at ha hb ⊢
  have hb0 := (Below.refl w.heap.size w).alloc (Nat.le_refl _) (.cells #[.int .i64 k, .string a, .string b, .int .i64 n] 128)
  have HO := Lib.hid (specAskOk_any (k, a, b, n) (w.alloc (.cells #[.int .i64 k, .string a, .string b, .int .i64 n] 128)) ha hb)
  have hB := Blk.new w 128 #[.int .i64 k, .string a, .string b, .int .i64 n]
  clear ha hb
  go_enter Try.func159, Try.ntmps159
  go_wp2_with fail
  generalize w.alloc (.cells #[.int .i64 k, .string a, .string b, .int .i64 n] 128) = w0 at *
  refine HO.out.mono ?_
  rintro e w1 ⟨v, rfl, hp, hb1⟩
  have hB1 := hB.kept hb1
  have x0 : w1.cell? ⟨w.heap.size, 0, none⟩ = some (.int .i64 k) := hB1.cell 0
  have x1 : w1.cell? ⟨w.heap.size, 1, none⟩ = some (.string a) := hB1.cell 1
  have x2 : w1.cell? ⟨w.heap.size, 2, none⟩ = some (.string b) := hB1.cell 2
  have x3 : w1.cell? ⟨w.heap.size, 3, none⟩ = some (.int .i64 n) := hB1.cell 3
  have HB1 := Lib.hid (bthen hb0 hb1)
  clear HO hB hb0 hb1
  cases v
  · go_wp2
    go_ret
    exact AskTextPost.no HB1.out
  have HP := Lib.hid (hp rfl)
  obtain ⟨p1, p2, p3, p4, p5, p6⟩ := hp rfl
  simp only at p1 p2 p3 p4 p5 p6
  obtain ⟨m, rfl⟩ : ∃ m : Nat, k = (m : Int) := ⟨k.toNat, by omega⟩
  have hm : m ≤ 9 := by omega
  clear hp p1 p2
  go_wp2_with fail
  refine (l4Shape_any _ _).mono ?_
  rintro e w2 ⟨rfl, hb2⟩
  have hB2 := hB1.kept hb2
  have y0 : w2.cell? ⟨w.heap.size, 0, none⟩ = some (.int .i64 m) := hB2.cell 0
  have HB2 := Lib.hid (bthen HB1.out hb2)
  generalize shapeK (m : Int) = s at *
  obtain ⟨s1, s2, s3⟩ := s
  clear hB1 x0 x1 x2 x3 hb2
  go_wp2_with fail
  refine (l4Word_any m _ hm).mono ?_
  rintro e w3 ⟨t, rfl, ht, hb3⟩
  have hB3 := hB2.kept hb3
  have z1 : w3.cell? ⟨w.heap.size, 1, none⟩ = some (.string a) := hB3.cell 1
  have z2 : w3.cell? ⟨w.heap.size, 2, none⟩ = some (.string b) := hB3.cell 2
  have z3 : w3.cell? ⟨w.heap.size, 3, none⟩ = some (.int .i64 n) := hB3.cell 3
  have HB3 := Lib.hid (bthen HB2.out hb3)
  have HN := Lib.hid (decZ_any n w3 (by omega) (by omega))
  have hP : (⟨#[32]⟩ : ByteArray).size = 1 := rfl
  clear hB2 y0 hb3 hB3 p5 p6 HB1 HB2
  cases s1 <;> cases s2
  all_goals
    cases s3
    case false =>
      go_wp2
      all_goals try (exfalso; omega)
      go_ret
      exact AskTextPost.yes HB3.out HP.out (by (try simp only [ByteArray.size_append, hP]); omega)
    case true =>
      go_wp2_with fail
      all_goals try (exfalso; omega)
      refine HN.out.mono ?_
      rintro e w4 ⟨q, rfl, hq, hb4⟩
      go_wp2
      all_goals try (exfalso; omega)
      go_ret
      exact AskTextPost.yes (bthen HB3.out hb4) HP.out (by (try simp only [ByteArray.size_append, hP]); omega)
end Go.Proofs.Ytpjkcmmmpgncmaa
