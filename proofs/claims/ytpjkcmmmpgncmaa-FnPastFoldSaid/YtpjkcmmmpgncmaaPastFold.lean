/- FnPastFold: all that was done, done once more, leaves the rows of every time. For all codes. No condition. -/
import Derived.Test.YtpjkcmmmpgncmaaWpW
import Derived.Test.YtpjkcmmmpgncmaaPAll
import Derived.Test.YtpjkcmmmpgncmaaRowS
import Derived.Test.YtpjkcmmmpgncmaaPastD
import Derived.Deep.RegionHeld3
import Derived.BigQuiet
namespace Go.Proofs.Ytpjkcmmmpgncmaa
open Go.RowKit Go.ChangeShapes Go.WideShapes Go.ChangeAt Go.Deep
set_option maxRecDepth 100000 in
set_option maxHeartbeats 12000000 in
theorem lawPastFold (A : Option Addr) (bs : List UInt8) (c : Nat) (w : World) (hc : bs.length ≤ c) (hm : c ≤ maxLen) (hS : Sl encU 1 w A bs) :
    Calls Try.prog 9 #[.slice A bs.length c] w fun e w' => e = .returned (.bool true) ∧ Below w.heap.size w w' := by
  go_enter Try.func9, Try.ntmps9
  by_cases hbig : 1048576 < bs.length
  · have d0 : decide ((1048576 : Int) < (bs.length : Int)) = true := decide_eq_true (by omega)
    go_wp2
    go_ret
    exact ⟨rfl, Below.refl _ _⟩
  have d0 : decide ((1048576 : Int) < (bs.length : Int)) = false := decide_eq_false (by omega)
  have HD := Lib.hid (drawPastAll_any A bs c w (by omega) hc hm hS)
  clear hS hbig
  go_wp2_with fail
  refine HD.out.mono ?_
  rintro e w1 ⟨now, l, v, rfl, ho, hf, hl, hn0, hn1, hb1⟩
  obtain ⟨A2, c2, rfl, _, _, hS2⟩ := ho.sl
  have hbn := (Below.refl w1.heap.size w1).alloc (Nat.le_refl _) (.cells #[.int .i64 now, .slice A2 l.length c2] 32)
  have HI0 := Lib.hid (show PF w w1.heap.size now A2 l c2 none [] none [] (w1.alloc (.cells #[.int .i64 now, .slice A2 l.length c2] 32)) from ⟨Blk.new w1 32 _, hS2.below hbn, ⟨fun h => absurd h (by simp), fun r h => absurd h (by simp)⟩, ⟨fun h => absurd h (by simp), fun r h => absurd h (by simp)⟩, bthen hb1 hbn⟩)
  have HF := Lib.hid hf
  have HC := Lib.hid (implAll_any A2 l c2 now (w1.alloc (.cells #[.int .i64 now, .slice A2 l.length c2] 32)) hf (by omega) HI0.out.2.1)
  have r0 : (w1.alloc (.cells #[.int .i64 now, .slice A2 l.length c2] 32)).cell? ⟨w1.heap.size, 0, none⟩ = some (.int .i64 now) := HI0.out.1.cell 0
  have r1 : (w1.alloc (.cells #[.int .i64 now, .slice A2 l.length c2] 32)).cell? ⟨w1.heap.size, 1, none⟩ = some (.slice A2 l.length c2) := HI0.out.1.cell 1
  clear hbn hb1 ho hS2 hf HD d0
  go_wp2_with fail
  generalize w1.alloc (.cells #[.int .i64 now, .slice A2 l.length c2] 32) = w2 at *
  generalize w1.heap.size = g3 at *
  refine HC.out.mono ?_
  rintro e w3 ⟨qs, A4, c4, rfl, hq3, hcq, hb3⟩
  have HI := Lib.hid (show PF w g3 now A2 l c2 A4 qs none [] w3 from ⟨HI0.out.1.kept hb3, HI0.out.2.1.below hb3, hq3.readsF, ⟨fun h => absurd h (by simp), fun r h => absurd h (by simp)⟩, bthen HI0.out.2.2.2.2 hb3⟩)
  have HQF := Lib.hid hq3.2.2.2
  have HCQ := Lib.hid hcq
  have HQL := Lib.hid (show qs.length ≤ 40 from by have := allF_len now l; rw [← hcq, cont_len] at this; exact this)
  clear HC hb3 HI0 r0 r1 hq3
  have HC := Lib.hid (specAllF_any A2 l c2 now w3 HF.out (by omega) HI.out.2.1)
  have r0 : w3.cell? ⟨g3, 0, none⟩ = some (.int .i64 now) := HI.out.1.cell 0
  have r1 : w3.cell? ⟨g3, 1, none⟩ = some (.slice A2 l.length c2) := HI.out.1.cell 1
  go_wp2_with fail
  refine HC.out.mono ?_
  rintro e w4 ⟨ps, A5, c5, rfl, hp4, hcp, hb4⟩
  have HLE := Lib.hid (show ps.length = qs.length from by rw [← cont_len ps, ← cont_len qs, hcq, hcp])
  have HCP := Lib.hid (show cont ps = cont qs from hcp.trans hcq.symm)
  have HI2 := Lib.hid (show PF w g3 now A2 l c2 A4 qs A5 ps w4 from ⟨HI.out.1.kept hb4, HI.out.2.1.below hb4, HI.out.2.2.1.belowF hb4, hp4.readsF, bthen HI.out.2.2.2.2 hb4⟩)
  have hq40 := HQL.out
  clear HC hb4 HI hp4 hcp hcq r0 r1
  rw [HLE.out]
  go_wp2
  go_loopg [6] qs.length (fun kx s6 W => ∃ k : Nat, k ≤ qs.length ∧ kx = qs.length - k ∧ s6 = .int .i64 k ∧ Hid (PF w g3 now A2 l c2 A4 qs A5 ps W))
  case atStart => exact ⟨0, Nat.zero_le _, rfl, rfl, HI2⟩
  case round =>
    clear HI2
    obtain ⟨k, hk, hg, rfl, HI⟩ := hrel
    by_cases hlt : k < qs.length
    · have HQK := Lib.hid (List.getElem?_eq_getElem hlt)
      have HPK := Lib.hid (List.getElem?_eq_getElem (show k < ps.length by rw [HLE.out]; exact hlt))
      have hv : versB now l = true := by
        cases hv : versB now l
        · have := HCQ.out; rw [allD_no hv] at this
          have h2 := cont_len qs
          rw [this] at h2
          simp at h2; omega
        · rfl
      have hkn : k < now.toNat := by
        have := HCQ.out; rw [allD_yes hv] at this
        have h2 := cont_len qs
        rw [this, doneL_len] at h2; omega
      have HM := Lib.hid (show (qs[k]).2.2 = pastL now l ((k : Int) + 1) ∧ (ps[k]'(by rw [HLE.out]; exact hlt)).2.2 = (qs[k]).2.2 from by
        have e1 : (cont qs)[k]? = some (qs[k]).2.2 := by unfold cont; rw [List.getElem?_map, HQK.out]; rfl
        have e2 : (cont ps)[k]? = some (ps[k]'(by rw [HLE.out]; exact hlt)).2.2 := by unfold cont; rw [List.getElem?_map, HPK.out]; rfl
        rw [HCP.out, e1] at e2
        refine ⟨?_, by injection e2 with e2; exact e2.symm⟩
        rw [HCQ.out, allD_yes hv] at e1
        have h3 : (doneL l now.toNat)[k]? = some (l8L l ((k : Int) + 1)) := by unfold doneL; rw [List.getElem?_map, List.getElem?_range hkn]; rfl
        rw [h3] at e1
        injection e1 with e1
        unfold pastL
        rw [← e1, if_pos ⟨hv, by omega, by omega⟩])
      have HML := Lib.hid (HQF.out _ (List.getElem_mem hlt)).2
      generalize qs[k] = x at *
      generalize ps[k]'(by rw [HLE.out]; exact hlt) = y at *
      obtain ⟨Ax, cx, M⟩ := x
      obtain ⟨Ay, cy, M2⟩ := y
      obtain ⟨hm1, hm2⟩ := HM.out
      simp only at hm1 hm2
      subst hm2
      have HPM := Lib.hid hm1.symm
      have hml : M2.length ≤ 120 := HML.out
      clear hm1 HM hv HML
      obtain ⟨b4, o4, rfl, hbl4, d0, hSX⟩ := HI.out.2.2.1.look HQK.out
      obtain ⟨b5, o5, rfl, hbl5, d1, hSY⟩ := HI.out.2.2.2.1.look HPK.out
      simp only at d0 d1 hSX hSY
      have HX := Lib.hid (hSX.below (Below.refl wr.heap.size wr).drew)
      have HY := Lib.hid (hSY.below (Below.refl wr.heap.size wr).drew)
      have HI := Lib.hid (HI.out.below (Below.refl wr.heap.size wr).drew)
      have s0 : wr.cell? ⟨g3, 0, none⟩ = some (.int .i64 now) := HI.out.1.cell 0
      have s1 : wr.cell? ⟨g3, 1, none⟩ = some (.slice A2 l.length c2) := HI.out.1.cell 1
      have hki : (k : Int) < (qs.length : Int) := by omega
      have hki0 : (0 : Int) ≤ (k : Int) := by omega
      have hwk : IntKind.i64.wrap ((k : Int) + 1) = (k : Int) + 1 := by rw [IntKind.wrap_i64]; omega
      clear hSX hSY
      go_wp2_with fail
      go_region_held3 (fun W => W.cell? ⟨g3, 0, none⟩ = some (.int .i64 now) ∧ W.cell? ⟨g3, 1, none⟩ = some (.slice A2 l.length c2) ∧ W.cell? ⟨b4, o4 + k, none⟩ = some (.slice Ax M2.length cx) ∧ W.cell? ⟨b5, o5 + k, none⟩ = some (.slice Ay M2.length cy))
        (first | assumption | go_keep)
        (first
          | (go_at_call 17
             refine (wpWrites_same _ _ M2 _ _ _ (by omega) HX.out (by first | exact HY.out | exact HZ.out)).mono ?_
             rintro e wk ⟨rfl, hbk⟩
             have HI := Lib.hid (HI.out.below hbk)
             have HX := Lib.hid (HX.out.below hbk)
             have HY := Lib.hid (HY.out.below hbk)
             try have HZ := Lib.hid (HZ.out.below hbk)
             have hkk : wk.cell? ⟨g3, 0, none⟩ = some (.int .i64 now) ∧ wk.cell? ⟨g3, 1, none⟩ = some (.slice A2 l.length c2) ∧ wk.cell? ⟨b4, o4 + k, none⟩ = some (.slice Ax M2.length cx) ∧ wk.cell? ⟨b5, o5 + k, none⟩ = some (.slice Ay M2.length cy) := ⟨HI.out.1.cell 0, HI.out.1.cell 1, look_cell HI.out.2.2.1 HQK.out, look_cell HI.out.2.2.2.1 HPK.out⟩
             clear hbk)
          | (go_at_call 16
             refine (implPastAt_any _ _ _ _ _ _ HF.out (by omega) HI.out.2.1).mono ?_
             rintro e wk ⟨vk, rfl, hok, hbk⟩
             rw [HPM.out] at hok
             obtain ⟨AZ, cZ, rfl, _, _, hSZ⟩ := hok.sl
             have HZ := Lib.hid hSZ
             have HI := Lib.hid (HI.out.below hbk)
             have HX := Lib.hid (HX.out.below hbk)
             have HY := Lib.hid (HY.out.below hbk)
             have hkk : wk.cell? ⟨g3, 0, none⟩ = some (.int .i64 now) ∧ wk.cell? ⟨g3, 1, none⟩ = some (.slice A2 l.length c2) ∧ wk.cell? ⟨b4, o4 + k, none⟩ = some (.slice Ax M2.length cx) ∧ wk.cell? ⟨b5, o5 + k, none⟩ = some (.slice Ay M2.length cy) := ⟨HI.out.1.cell 0, HI.out.1.cell 1, look_cell HI.out.2.2.1 HQK.out, look_cell HI.out.2.2.2.1 HPK.out⟩
             clear hok hSZ hbk))
      all_goals
        go_wp2
        go_roundg (qs.length - (k + 1))
        case measure => omega
        case rel => exact ⟨k + 1, by omega, by omega, by go_num, HI⟩
    · obtain rfl : k = qs.length := by omega
      have s0 : wr.cell? ⟨g3, 0, none⟩ = some (.int .i64 now) := HI.out.1.cell 0
      have s1 : wr.cell? ⟨g3, 1, none⟩ = some (.slice A2 l.length c2) := HI.out.1.cell 1
      have HC := Lib.hid (specVersOk_any A2 l c2 now wr HF.out (by omega) HI.out.2.1)
      clear hg hlt hk
      go_wp2_with fail
      refine HC.out.mono ?_
      rintro e wa ⟨rfl, hba⟩
      have HI := Lib.hid (HI.out.below hba)
      have hbe := HI.out.2.2.2.2
      clear HC hba s0 s1
      cases hv : versB now l
      · have h0 : qs.length = 0 := by
          have := HCQ.out; rw [allD_no hv] at this
          have h2 := cont_len qs
          rw [this] at h2
          simpa using h2.symm
        obtain rfl : qs = [] := List.length_eq_zero_iff.1 h0
        clear h0 hq40
        go_wp2
        go_ret
        exact ⟨rfl, hbe⟩
      have HV := Lib.hid hv
      have HQN := Lib.hid (show qs.length = now.toNat from by
        have := HCQ.out; rw [allD_yes hv] at this
        have h2 := cont_len qs
        rw [this, doneL_len] at h2; exact h2.symm)
      have HCD := Lib.hid (show cont qs = doneL l now.toNat from by rw [HCQ.out, allD_yes hv])
      have hn40 := (versB_out hv).1.1
      have hn41 := (versB_out hv).1.2.1
      clear hv hbe
      go_wp2
      go_loopg [7] now.toNat (fun kx s7 W => ∃ m : Nat, m ≤ now.toNat ∧ kx = now.toNat - m ∧ s7 = .int .i64 ((m : Int) + 1) ∧ Hid (PF w g3 now A2 l c2 A4 qs A5 ps W))
      case atStart => exact ⟨0, Nat.zero_le _, rfl, rfl, HI⟩
      case round =>
        clear HI
        rename_i W7
        obtain ⟨m, hm, hg, rfl, HI⟩ := hrel
        have s0 : wr.cell? ⟨g3, 0, none⟩ = some (.int .i64 now) := HI.out.1.cell 0
        have s1 : wr.cell? ⟨g3, 1, none⟩ = some (.slice A2 l.length c2) := HI.out.1.cell 1
        by_cases hlt : m < now.toNat
        · have dt : decide ((m : Int) + 1 ≤ now) = true := decide_eq_true (by omega)
          have HQK := Lib.hid (List.getElem?_eq_getElem (show m < qs.length by rw [HQN.out]; exact hlt))
          have HML := Lib.hid (HQF.out _ (List.getElem_mem (show m < qs.length by rw [HQN.out]; exact hlt)))
          generalize qs[m]'(by rw [HQN.out]; exact hlt) = x at *
          obtain ⟨Ax, cx, M⟩ := x
          have hml : M.length ≤ 120 := HML.out.2
          have hmi : (m : Int) < (qs.length : Int) := by have := HQN.out; omega
          have q1 : IntKind.i64.wrap (m : Int) = (m : Int) := IntWalk.i64_in _ (by omega)
          have hmi0 : (0 : Int) ≤ (m : Int) := by omega
          have HC := Lib.hid (implAt_any A2 l c2 now (m : Int) wr HF.out (by omega) HI.out.2.1)
          have HRX := Lib.hid (show rowsA now l (m : Int) = atL l m from rowsA_yes HV.out (by omega) (by omega))
          rw [HRX.out] at HC
          have hal := atL_le l (m : Int)
          have HFR := Lib.hid (atL_fits HF.out (t := (m : Int)))
          generalize atL l (m : Int) = RR at *
          go_wp2_with fail
          refine HC.out.mono ?_
          rintro e w8 ⟨v8, rfl, ho8, hb8⟩
          obtain ⟨A8, c8, rfl, _, _, hS8⟩ := ho8.sl
          have HS8 := Lib.hid hS8
          have HI := Lib.hid (HI.out.below hb8)
          clear HC HRX ho8 hb8 hS8 s0 s1 dt
          go_wp2
          go_loopg [9] M.length (fun kx s9 W => ∃ j : Nat, j ≤ M.length ∧ kx = M.length - j ∧ s9 = .int .i64 j ∧ Hid (PF w g3 now A2 l c2 A4 qs A5 ps W) ∧ Hid (Sl encRow 2 W A8 RR))
          case atStart => exact ⟨0, Nat.zero_le _, rfl, rfl, HI, HS8⟩
          case round =>
            clear HI HS8
            rename_i W9
            obtain ⟨j, hj, hgj, rfl, HI, HS8⟩ := hrel
            obtain ⟨b4, o4, rfl, hbl4, d0, hSX⟩ := HI.out.2.2.1.look HQK.out
            simp only at d0 hSX
            by_cases hlj : j < M.length
            · obtain ⟨bx, ox, rfl, hblx, e0, e1, e2⟩ := Sl.at3 hSX hlj
              have HYK := Lib.hid (HML.out.1.2 _ (List.getElem_mem hlj))
              generalize M[j] = y at *
              obtain ⟨yk, yn, yg⟩ := y
              simp only at e0 e1 e2 HYK
              have hji : (j : Int) < (M.length : Int) := by omega
              have hji0 : (0 : Int) ≤ (j : Int) := by omega
              clear hSX
              cases yg
              · go_wp2
                go_roundg (M.length - (j + 1))
                case measure => omega
                case rel => exact ⟨j + 1, by omega, by omega, by go_num, HI, HS8⟩
              · obtain ⟨⟨x, hb⟩, hxb⟩ : ∃ p : Int × Bool, p = getR RR yk := ⟨_, rfl⟩
                have HC := Lib.hid (rowsGet_any A8 RR c8 yk wr HFR.out (by omega) HS8.out)
                rw [← hxb] at HC
                clear hxb
                go_wp2_with fail
                refine HC.out.mono ?_
                rintro e wa ⟨rfl, hba⟩
                have HI := Lib.hid (HI.out.below hba)
                have HS8 := Lib.hid (HS8.out.below hba)
                have hbe := HI.out.2.2.2.2
                clear HC hba
                cases hb
                · go_wp2
                  go_ret
                  exact ⟨rfl, hbe⟩
                · clear hbe
                  go_wp2
                  go_roundg (M.length - (j + 1))
                  case measure => omega
                  case rel => exact ⟨j + 1, by omega, by omega, by go_num, HI, HS8⟩
            · obtain rfl : j = M.length := by omega
              clear hSX hgj hlj hj
              go_wp2
              go_roundg (now.toNat - (m + 1))
              case measure => omega
              case rel => exact ⟨m + 1, by omega, by omega, by go_num, HI⟩
        · have dt : decide ((m : Int) + 1 ≤ now) = false := decide_eq_false (by omega)
          have HC := Lib.hid (implPastFold_any A4 qs c4 wr ⟨by unfold maxLen; omega, fun r hr => (HQF.out r hr).1⟩ (by omega) (fun r hr => by have := (HQF.out r hr).2; omega) HI.out.2.2.1)
          have HFL := Lib.hid (goF_short (cont qs) 0 [] (by simp))
          have HFF := Lib.hid (goF_fitsP (cont qs) 0 [] (fun r hr => by obtain ⟨s, hs, rfl⟩ := List.mem_map.1 hr; exact (HQF.out s hs).1) ⟨Nat.zero_le _, fun x h => absurd h (by simp)⟩ (by simp))
          generalize hgo : goF 0 [] (cont qs) = R at *
          have HR := Lib.hid (show goF 0 [] (doneL l now.toNat) = R from by rw [← HCD.out]; exact hgo)
          obtain ⟨⟨n, L⟩, ok⟩ := R
          have hL60 : L.length ≤ 60 := HFL.out
          have HFL := Lib.hid (show FitsV L from HFF.out)
          clear hgo HFF hg hlt hm
          go_wp2_with fail
          refine HC.out.mono ?_
          rintro e w6 ⟨v6, rfl, ho6, hb6⟩
          simp only at ho6 ⊢
          obtain ⟨A6, c6, rfl, _, _, hS6⟩ := ho6.sl
          have hbn6 := (Below.refl w6.heap.size w6).alloc (Nat.le_refl _) (.cells #[.int .i64 n, .slice A6 L.length c6] 32)
          have HB6 := Lib.hid (Blk.new w6 32 #[.int .i64 n, .slice A6 L.length c6])
          have HS6 := Lib.hid (hS6.below hbn6)
          have HI := Lib.hid (HI.out.below (bthen hb6 hbn6))
          have hbe := HI.out.2.2.2.2
          clear HC hb6 ho6 hS6 hbn6 s0 s1 dt
          cases ok
          case false =>
            go_wp2
            go_ret
            exact ⟨rfl, hbe⟩
          obtain ⟨rfl, hVL, hAT⟩ := replay HV.out HR.out
          have HVL := Lib.hid hVL
          have HAT := Lib.hid hAT
          clear hVL hAT HR hbe
          have HPX := Lib.hid (show PX w g3 n A2 l c2 A4 qs A5 ps w6.heap.size A6 L c6 (w6.alloc (.cells #[.int .i64 n, .slice A6 L.length c6] 32)) from ⟨HI.out, HB6.out, HS6.out⟩)
          clear HI HB6 HS6
          go_wp2
          generalize w6.alloc (.cells #[.int .i64 n, .slice A6 L.length c6] 32) = w7 at *
          generalize w6.heap.size = g12 at *
          go_loopg [14] (n + 1).toNat (fun kx s14 W => ∃ t : Int, 0 ≤ t ∧ t ≤ n + 1 ∧ kx = (n + 1 - t).toNat ∧ s14 = .int .i64 t ∧ Hid (PX w g3 n A2 l c2 A4 qs A5 ps g12 A6 L c6 W))
          case atStart => exact ⟨0, Int.le_refl _, by omega, by omega, rfl, HPX⟩
          case round =>
            clear HPX
            rename_i W14
            obtain ⟨t, ht0, ht1, hg, rfl, HI⟩ := hrel
            have s0 : wr.cell? ⟨g3, 0, none⟩ = some (.int .i64 n) := HI.out.1.1.cell 0
            have s1 : wr.cell? ⟨g3, 1, none⟩ = some (.slice A2 l.length c2) := HI.out.1.1.cell 1
            have s2 : wr.cell? ⟨g12, 0, none⟩ = some (.int .i64 n) := HI.out.2.1.cell 0
            have s3 : wr.cell? ⟨g12, 1, none⟩ = some (.slice A6 L.length c6) := HI.out.2.1.cell 1
            by_cases hlt : t ≤ n
            · have dt : decide (t ≤ n) = true := decide_eq_true hlt
              have HRX := Lib.hid (show rowsA n L t = atL l t from by rw [rowsA_yes HVL.out ht0 hlt, HAT.out t ht0 hlt])
              have HRY := Lib.hid (rowsA_yes HV.out ht0 hlt)
              have hal := atL_le l t
              generalize atL l t = R at *
              have HI := Lib.hid (HI.out.below (Below.refl wr.heap.size wr).drew)
              go_wp2_with fail
              go_region_held3 (fun W => W.cell? ⟨g3, 0, none⟩ = some (.int .i64 n) ∧ W.cell? ⟨g3, 1, none⟩ = some (.slice A2 l.length c2) ∧ W.cell? ⟨g12, 0, none⟩ = some (.int .i64 n) ∧ W.cell? ⟨g12, 1, none⟩ = some (.slice A6 L.length c6))
                (first | assumption | go_keep)
                (first
                  | (go_at_call 37
                     refine (wpRows_same AX AY R cX cY _ (by omega) HX.out.reads HY.out.reads).mono ?_
                     rintro e wk ⟨rfl, hbk⟩
                     have HI := Lib.hid (HI.out.below hbk)
                     have hkk : wk.cell? ⟨g3, 0, none⟩ = some (.int .i64 n) ∧ wk.cell? ⟨g3, 1, none⟩ = some (.slice A2 l.length c2) ∧ wk.cell? ⟨g12, 0, none⟩ = some (.int .i64 n) ∧ wk.cell? ⟨g12, 1, none⟩ = some (.slice A6 L.length c6) := ⟨HI.out.1.1.cell 0, HI.out.1.1.cell 1, HI.out.2.1.cell 0, HI.out.2.1.cell 1⟩
                     clear hbk)
                  | (go_at_call 34
                     refine (implAt_any _ _ _ _ _ _ ?_ ?_ ?_).mono ?_
                     (first | exact HFL.out | exact HF.out)
                     omega
                     (first | exact HI.out.2.2 | exact HI.out.1.2.1)
                     rintro e wk ⟨vk, rfl, hok, hbk⟩
                     first
                       | (rw [HRX.out] at hok
                          obtain ⟨AX, cX, rfl, _, _, hSX⟩ := hok.sl
                          have HX := Lib.hid hok
                          try have HY := Lib.hid (HY.out.below hbk)
                          clear hSX)
                       | (rw [HRY.out] at hok
                          obtain ⟨AY, cY, rfl, _, _, hSY⟩ := hok.sl
                          have HY := Lib.hid hok
                          try have HX := Lib.hid (HX.out.below hbk)
                          clear hSY)
                     have HI := Lib.hid (HI.out.below hbk)
                     have hkk : wk.cell? ⟨g3, 0, none⟩ = some (.int .i64 n) ∧ wk.cell? ⟨g3, 1, none⟩ = some (.slice A2 l.length c2) ∧ wk.cell? ⟨g12, 0, none⟩ = some (.int .i64 n) ∧ wk.cell? ⟨g12, 1, none⟩ = some (.slice A6 L.length c6) := ⟨HI.out.1.1.cell 0, HI.out.1.1.cell 1, HI.out.2.1.cell 0, HI.out.2.1.cell 1⟩
                     clear hok hbk))
              all_goals
                go_wp2
                go_roundg (n + 1 - (t + 1)).toNat
                case measure => omega
                case rel => exact ⟨t + 1, by omega, by omega, rfl, by go_num, HI⟩
            · have dt : decide (t ≤ n) = false := decide_eq_false hlt
              have hbe := HI.out.1.2.2.2.2
              have hbq : ((n == n) : Bool) = true := by simp
              clear hg hlt ht0 ht1 HI
              go_wp2
              go_ret
              exact ⟨rfl, hbe⟩
theorem own0 : ownKnob Try.prog.godebug = none := by kernel_rfl
theorem laidOut0 : laidOutB Try.prog = true := by kernel_rfl
set_option maxRecDepth 100000 in
theorem pastFold_lifted (os : Os) (started : os.Started) (H : Type) (enc : TypeId × Value → H) :
    ReturnsInHanded {} Try.checked os 9 .any (Rows.fnPastFoldSpec.pre6 enc Try.prog Try.f9 Rows.fnPastFoldRow.domain false) (Rows.fnPastFoldSpec.post enc Try.prog Try.f9 false true false false) := by
  refine returnsInHanded_of_change (C := Try.checked) own0 started (by kernel_rfl) Try.func9
    (ChangeSpec.witness6 (enc := enc) (C := Try.checked) false ⟨#[], #[.slice none 0 0], []⟩ 8 (by kernel_rfl) (by kernel_rfl) (by kernel_rfl) (by kernel_rfl)) ?_
  intro W base args ds gs before hval0 hW hcnd _
  have hval : ∀ (j : Nat) t v, Try.f9.params[j]? = some t → args[j]? = some v → Value.okWide Try.prog W .any base t v := hval0
  have hW' := hW
  obtain ⟨p, q, hA0, hV, rfl, hfz, hnd⟩ := hW
  have hA : DataW.TrodAll enc Try.prog W 0 (fun _ => true) true Try.f9.params.toList args.toList ds p := hA0
  rw [Try.params9] at hA hval
  obtain ⟨v0, vs0, d0, ds0, p0, q0, hargs, rfl, rfl, h0, r0⟩ := trodAll_cons hA
  obtain ⟨rfl, rfl, rfl⟩ := trodAll_nil r0
  obtain rfl : args = #[v0] := by cases args; simp_all
  obtain ⟨rfl, rfl⟩ := trodVars_none hV
  have k0 := h0
  have lt0 : ∀ x ∈ p0, x.block < W.heap.size := by obtain ⟨m, hm⟩ := k0; exact DataW.trod_lt m _ _ _ hm
  obtain ⟨A0, bs0, c0, rfl, hb0, hR0⟩ := open_bytes (hval 0 38 v0 rfl rfl) h0
  clear hA0 hval0
  refine (lawPastFold A0 bs0 c0 W hb0.1 hb0.2 hR0).mono fun e W' ⟨he, bel⟩ => ?_
  subst he
  exact ⟨_, rfl, _, _, _, [], _, [], hW', trodAll_mk1 (shut_bool Try.underlying4 _), (trodAll_cons_mk (Below.trod laidOut0 (by kernel_rfl) (of_decide_eq_true (by kernel_rfl)) k0 bel lt0) trodAll_mk0), rfl, bel.frame _, fun h => by cases h⟩
theorem pastFold_holds : Rows.FnPastFoldSaid :=
  OpenClaim.holds_of_wide 9 Try.f9 rfl rfl rfl rfl rfl rfl rfl ⟨rfl, rfl, rfl, rfl, rfl⟩ rfl rfl rfl rfl rfl (by kernel_rfl) Try.func9 (by kernel_rfl)
    (of_decide_eq_true (by kernel_rfl)) (by unfold Func.isWrapper; first | (rw [if_pos (by decide +kernel)]; kernel_rfl) | (rw [if_neg (by decide +kernel)]; exact ⟨rfl, rfl⟩))
    (fun os started H enc _ => pastFold_lifted os started H enc)
#print axioms pastFold_holds
end Go.Proofs.Ytpjkcmmmpgncmaa
