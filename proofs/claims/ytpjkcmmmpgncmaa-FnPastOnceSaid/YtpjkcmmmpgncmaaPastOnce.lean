/- FnPastOnce: replay and history are inverse, but for what takes away what is not there. For all codes. No condition. -/
import Derived.Test.YtpjkcmmmpgncmaaL8Past
import Derived.Test.YtpjkcmmmpgncmaaFoldS
import Derived.Test.YtpjkcmmmpgncmaaRowS
import Derived.Test.YtpjkcmmmpgncmaaPastD
import Derived.Deep.RegionHeld3
import Derived.BigQuiet
namespace Go.Proofs.Ytpjkcmmmpgncmaa
open Go.RowKit Go.ChangeShapes Go.WideShapes Go.ChangeAt Go.Deep
theorem filt_at {M : List Wri} {p : Wri → Bool} {i : Nat} (h : i < M.length) (hp : p M[i] = true) : (M.filter p)[((M.take i).filter p).length]? = some M[i] := by
  have e : M.filter p = (M.take i).filter p ++ M[i] :: (M.drop (i + 1)).filter p := by
    conv => lhs; rw [← List.take_append_drop i M, List.filter_append, List.drop_eq_getElem_cons h, List.filter_cons, if_pos hp]
  rw [e, List.getElem?_append_right (Nat.le_refl _)]
  simp
theorem filt_count {M : List Wri} {p : Wri → Bool} {i : Nat} (h : i < M.length) : ((M.take (i + 1)).filter p).length = ((M.take i).filter p).length + (if p M[i] = true then 1 else 0) := by
  rw [List.take_succ_eq_append_getElem h, List.filter_append, List.length_append]
  congr 1
  cases hp : p M[i]
  · rw [if_neg (by simp), List.filter_cons, if_neg (by rw [hp]; simp)]; rfl
  · rw [if_pos rfl, List.filter_cons, if_pos hp]; rfl
theorem goF_fitsO : ∀ (rs : List (List Wri)) (now : Int) (l : List Ver), (∀ r ∈ rs, FitsW r) → FitsV l → l.length ≤ 60 → FitsV (goF now l rs).1.2 := goF_fitsP
set_option maxRecDepth 100000 in
set_option maxHeartbeats 12000000 in
theorem lawPastOnce (A : Option Addr) (bs : List UInt8) (c : Nat) (w : World) (hc : bs.length ≤ c) (hm : c ≤ maxLen) (hS : Sl encU 1 w A bs) :
    Calls Try.prog 8 #[.slice A bs.length c] w fun e w' => e = .returned (.bool true) ∧ Below w.heap.size w w' := by
  go_enter Try.func8, Try.ntmps8
  by_cases hbig : 1048576 < bs.length
  · have d0 : decide ((1048576 : Int) < (bs.length : Int)) = true := decide_eq_true (by omega)
    go_wp2
    go_ret
    exact ⟨rfl, Below.refl _ _⟩
  have d0 : decide ((1048576 : Int) < (bs.length : Int)) = false := decide_eq_false (by omega)
  have HD := Lib.hid (drawFold_any A bs c w (by omega) hc hm hS)
  clear hS hbig
  go_wp2_with fail
  refine HD.out.mono ?_
  rintro e w1 ⟨qs, A3, c3, rfl, hRS, hql, hb1⟩
  have HQ := Lib.hid hRS.2.1
  have HFI := Lib.hid (show FitsR qs from ⟨Nat.le_trans hRS.2.2.1 hRS.2.2.2, fun r hr => (hRS.2.1 r hr).1⟩)
  have HLL1 := Lib.hid (show ∀ r ∈ qs, r.2.2.length ≤ 1048576 from fun r hr => by have := (hRS.2.1 r hr).2.1; omega)
  have HS3 := Lib.hid hRS.1
  have HFL0 := Lib.hid (goF_short (cont qs) 0 [] (by simp))
  have HFF := Lib.hid (goF_fitsO (cont qs) 0 [] (fun r hr => by obtain ⟨s, hs, rfl⟩ := List.mem_map.1 hr; exact (hRS.2.1 s hs).1) ⟨Nat.zero_le _, fun x h => absurd h (by simp)⟩ (by simp))
  have HC := Lib.hid (implPastFold_any A3 qs c3 w1 HFI.out (by omega) HLL1.out HS3.out)
  generalize hgo : goF 0 [] (cont qs) = R at *
  have HR := Lib.hid hgo
  obtain ⟨⟨n, L⟩, ok⟩ := R
  have hL60 : L.length ≤ 60 := HFL0.out
  have HFL := Lib.hid (show FitsV L from HFF.out)
  clear HD hRS d0 hgo HFL0 HFF
  go_wp2_with fail
  refine HC.out.mono ?_
  rintro e w2 ⟨v2, rfl, ho2, hb2⟩
  simp only at ho2 ⊢
  obtain ⟨A4, c4, rfl, _, _, hS4⟩ := ho2.sl
  have hbn := (Below.refl w2.heap.size w2).alloc (Nat.le_refl _) (.cells #[.int .i64 n, .slice A4 L.length c4] 32)
  have hb12 := bthen hb2 hbn
  have HI := Lib.hid (show PF w w2.heap.size n A4 L c4 A3 qs none [] (w2.alloc (.cells #[.int .i64 n, .slice A4 L.length c4] 32)) from ⟨Blk.new w2 32 _, hS4.below hbn, HS3.out.belowF hb12, ⟨fun h => absurd h (by simp), fun r h => absurd h (by simp)⟩, bthen hb1 hb12⟩)
  have HC2 := Lib.hid (specPastFold_any A3 qs c3 (w2.alloc (.cells #[.int .i64 n, .slice A4 L.length c4] 32)) HFI.out (by omega) HLL1.out (fun r hr => ⟨(HQ.out r hr).2.2.1, (HQ.out r hr).2.2.2⟩) HI.out.2.2.1)
  rw [HR.out] at HC2
  clear HC ho2 hb1 hb2 hS4 hbn hb12 HS3
  go_wp2_with fail
  generalize w2.alloc (.cells #[.int .i64 n, .slice A4 L.length c4] 32) = w3 at *
  generalize w2.heap.size = g4 at *
  refine HC2.out.mono ?_
  rintro e w4 ⟨v4, rfl, ho4, hb4⟩
  simp only at ho4 ⊢
  obtain ⟨A6, c6, rfl, _, _, hS6⟩ := ho4.sl
  have hbn := (Below.refl w4.heap.size w4).alloc (Nat.le_refl _) (.cells #[.int .i64 n, .slice A6 L.length c6] 32)
  have HB6 := Lib.hid (Blk.new w4 32 #[.int .i64 n, .slice A6 L.length c6])
  have HS6 := Lib.hid (hS6.below hbn)
  have HI2 := Lib.hid (HI.out.below (bthen hb4 hbn))
  have r0 : (w4.alloc (.cells #[.int .i64 n, .slice A6 L.length c6] 32)).cell? ⟨g4, 0, none⟩ = some (.int .i64 n) := HI2.out.1.cell 0
  have r1 : (w4.alloc (.cells #[.int .i64 n, .slice A6 L.length c6] 32)).cell? ⟨g4, 1, none⟩ = some (.slice A4 L.length c4) := HI2.out.1.cell 1
  have r2 : (w4.alloc (.cells #[.int .i64 n, .slice A6 L.length c6] 32)).cell? ⟨w4.heap.size, 0, none⟩ = some (.int .i64 n) := HB6.out.cell 0
  have r3 : (w4.alloc (.cells #[.int .i64 n, .slice A6 L.length c6] 32)).cell? ⟨w4.heap.size, 1, none⟩ = some (.slice A6 L.length c6) := HB6.out.cell 1
  have HC := Lib.hid (implSame_same A4 A6 L c4 c6 n (w4.alloc (.cells #[.int .i64 n, .slice A6 L.length c6] 32)) (by omega) HI2.out.2.1 HS6.out)
  have dne : (ok != ok) = false := by cases ok <;> rfl
  clear HC2 ho4 hb4 hS6 hbn HI
  go_wp2_with fail
  generalize w4.alloc (.cells #[.int .i64 n, .slice A6 L.length c6] 32) = w5 at *
  have hg6 := HB6.out.lt
  generalize w4.heap.size = g6 at *
  refine HC.out.mono ?_
  rintro e w6 ⟨rfl, hb6⟩
  have HI := Lib.hid (HI2.out.below hb6)
  have HS6 := Lib.hid (HS6.out.below hb6)
  have HB6 := Lib.hid (HB6.out.kept hb6)
  have r0 : w6.cell? ⟨g4, 0, none⟩ = some (.int .i64 n) := HI.out.1.cell 0
  have r1 : w6.cell? ⟨g4, 1, none⟩ = some (.slice A4 L.length c4) := HI.out.1.cell 1
  have r2 : w6.cell? ⟨g6, 0, none⟩ = some (.int .i64 n) := HB6.out.cell 0
  have r3 : w6.cell? ⟨g6, 1, none⟩ = some (.slice A6 L.length c6) := HB6.out.cell 1
  clear HC hb6 HI2 hg6
  cases ok
  case false =>
    have HC := Lib.hid (implSame_same A4 A6 L c4 c6 n w6 (by omega) HI.out.2.1 HS6.out)
    go_wp2_with fail
    refine HC.out.mono ?_
    rintro e w7 ⟨rfl, hb7⟩
    have hbe := bthen HI.out.2.2.2.2 hb7
    go_wp2
    go_ret
    exact ⟨rfl, hbe⟩
  obtain ⟨hN1, hN2, _⟩ := goF_late _ 0 n [] L HR.out vers_start
  have HNN := Lib.hid (show n = (qs.length : Int) from by rw [hN1, cont_len]; omega)
  have HNT := Lib.hid (show n.toNat = qs.length from by have := HNN.out; omega)
  have HV := Lib.hid hN2
  have HC := Lib.hid (implAll_any A4 L c4 n w6 HFL.out (by omega) HI.out.2.1)
  clear hN1 HS6 HB6 dne
  go_wp2_with fail
  refine HC.out.mono ?_
  rintro e w8 ⟨bk, A8, c8, rfl, hq8, hcb, hb8⟩
  rw [allD_yes hN2] at hcb
  have HCB := Lib.hid hcb
  have HLB := Lib.hid (show bk.length = qs.length from by rw [← cont_len bk, hcb, doneL_len, HNT.out])
  have HBF := Lib.hid hq8.2.2.2
  have HI2 := Lib.hid (show PF w g4 n A4 L c4 A3 qs A8 bk w8 from ⟨HI.out.1.kept hb8, HI.out.2.1.below hb8, HI.out.2.2.1.belowF hb8, hq8.readsF, bthen HI.out.2.2.2.2 hb8⟩)
  have r0 : w8.cell? ⟨g4, 0, none⟩ = some (.int .i64 n) := HI2.out.1.cell 0
  have dq : ((n != (qs.length : Int)) : Bool) = false := by have := HNN.out; simp [this]
  rw [HLB.out]
  clear HC hb8 hq8 hcb hN2 HI r1 r2 r3
  go_wp2
  go_loopg [9] qs.length (fun kx s9 W => ∃ m : Nat, m ≤ qs.length ∧ kx = qs.length - m ∧ s9 = .int .i64 ((m : Int) + 1) ∧ Hid (PF w g4 n A4 L c4 A3 qs A8 bk W))
  case atStart => exact ⟨0, Nat.zero_le _, rfl, rfl, HI2⟩
  case round =>
    clear HI2 r0 dq
    rename_i W9
    obtain ⟨m, hm, hg, rfl, HI⟩ := hrel
    have s0 : wr.cell? ⟨g4, 0, none⟩ = some (.int .i64 n) := HI.out.1.cell 0
    have s1 : wr.cell? ⟨g4, 1, none⟩ = some (.slice A4 L.length c4) := HI.out.1.cell 1
    by_cases hlt : m < qs.length
    · have dt : decide ((m : Int) + 1 ≤ n) = true := decide_eq_true (by have := HNN.out; omega)
      have HQK := Lib.hid (List.getElem?_eq_getElem hlt)
      have HBK := Lib.hid (List.getElem?_eq_getElem (show m < bk.length by rw [HLB.out]; exact hlt))
      have HQM := Lib.hid (HQ.out _ (List.getElem_mem hlt))
      have HBM := Lib.hid (HBF.out _ (List.getElem_mem (show m < bk.length by rw [HLB.out]; exact hlt)))
      have HON := Lib.hid (show (bk[m]'(by rw [HLB.out]; exact hlt)).2.2 = (qs[m]).2.2.filter (effB (atL L (m : Int))) from by
        have e1 : (cont qs)[m]? = some (qs[m]).2.2 := by unfold cont; rw [List.getElem?_map, HQK.out]; rfl
        have e2 : (cont bk)[m]? = some (bk[m]'(by rw [HLB.out]; exact hlt)).2.2 := by unfold cont; rw [List.getElem?_map, HBK.out]; rfl
        rw [HCB.out] at e2
        have h3 : (doneL L n.toNat)[m]? = some (l8L L ((m : Int) + 1)) := by unfold doneL; rw [List.getElem?_map, List.getElem?_range (by rw [HNT.out]; exact hlt)]; rfl
        rw [h3] at e2
        injection e2 with e2
        rw [← e2]
        exact once HR.out e1)
      generalize qs[m] = x at *
      generalize bk[m]'(by rw [HLB.out]; exact hlt) = y at *
      obtain ⟨Ax, cx, M⟩ := x
      obtain ⟨Ay, cy, B⟩ := y
      have hml : M.length ≤ 121 := HQM.out.2.1
      have hbl : B.length ≤ 120 := HBM.out.2
      have HON := Lib.hid (show B = M.filter (effB (atL L (m : Int))) from HON.out)
      have hmi : (m : Int) < (qs.length : Int) := by omega
      have hmb : (m : Int) < (bk.length : Int) := by have := HLB.out; omega
      have q1 : IntKind.i64.wrap (m : Int) = (m : Int) := IntWalk.i64_in _ (by omega)
      have hmi0 : (0 : Int) ≤ (m : Int) := by omega
      have HRX := Lib.hid (show rowsA n L (m : Int) = atL L m from rowsA_yes HV.out (by omega) (by have := HNN.out; omega))
      have HRB := Lib.hid (rowsB_at HV.out (t := (m : Int)) (by omega) (by have := HNN.out; omega))
      have hal := atL_le L (m : Int)
      have HFR := Lib.hid (atL_fits HFL.out (t := (m : Int)))
      generalize atL L (m : Int) = RR at *
      go_wp2
      go_loopg [10, 11] M.length (fun kx s10 s11 W => ∃ i kk : Nat, i ≤ M.length ∧ kx = M.length - i ∧ s10 = .int .i64 kk ∧ s11 = .int .i64 i ∧ kk ≤ i ∧ Hid (kk = ((M.take i).filter (effB RR)).length) ∧ Hid (PF w g4 n A4 L c4 A3 qs A8 bk W))
      case atStart => exact ⟨0, 0, Nat.zero_le _, rfl, rfl, rfl, Nat.le_refl _, Lib.hid (by simp), HI⟩
      case round =>
        clear HI s0 s1 dt
        rename_i W11
        obtain ⟨i, kk, hi, hgi, rfl, rfl, hkk, HKK, HI⟩ := hrel
        obtain ⟨b3, o3, rfl, hbl3, d3, hSM⟩ := HI.out.2.2.1.look HQK.out
        simp only at d3 hSM
        by_cases hli : i < M.length
        · obtain ⟨bx, ox, rfl, hblx, e0, e1, e2⟩ := Sl.at3 hSM hli
          have HYK := Lib.hid (HQM.out.1.2 _ (List.getElem_mem hli))
          have HCT := Lib.hid (filt_count (p := effB RR) hli)
          have HAT := Lib.hid (fun (h : effB RR M[i] = true) => filt_at hli h)
          rw [← HKK.out] at HCT HAT
          rw [← HON.out] at HAT
          generalize M[i] = y at *
          obtain ⟨yk, yn, yg⟩ := y
          simp only at e0 e1 e2 HYK
          have hii : (i : Int) < (M.length : Int) := by omega
          have hii0 : (0 : Int) ≤ (i : Int) := by omega
          have hwi : IntKind.i64.wrap ((i : Int) + 1) = (i : Int) + 1 := by rw [IntKind.wrap_i64]; omega
          have hwk : IntKind.i64.wrap ((kk : Int) + 1) = (kk : Int) + 1 := by rw [IntKind.wrap_i64]; omega
          have hkk0 : (0 : Int) ≤ (kk : Int) := by omega
          obtain ⟨⟨x, hb⟩, hxb⟩ : ∃ p : Int × Bool, p = getR RR yk := ⟨_, rfl⟩
          have HXB := Lib.hid hxb
          have HEF := Lib.hid (show effB RR (yk, yn, yg) = !(yg && !hb) from by
            have h1 := getR_val (R := RR) yk HRB.out rfl
            rw [← hxb] at h1
            injection h1 with h1 h2
            unfold effB lookR
            simp only
            rw [h2]
            cases (RR.find? (fun x => decide (x.1 = yk))).map (·.2) <;> rfl)
          clear hxb hSM
          have hbx := (Below.refl wr.heap.size wr).alloc (Nat.le_refl _) (.cells #[.string yk, .int .i64 yn, .bool yg] 46)
          have HB12 := Lib.hid (Blk.new wr 46 #[.string yk, .int .i64 yn, .bool yg])
          have HI := Lib.hid (HI.out.below hbx)
          have s0 : (wr.alloc (.cells #[.string yk, .int .i64 yn, .bool yg] 46)).cell? ⟨g4, 0, none⟩ = some (.int .i64 n) := HI.out.1.cell 0
          have s1 : (wr.alloc (.cells #[.string yk, .int .i64 yn, .bool yg] 46)).cell? ⟨g4, 1, none⟩ = some (.slice A4 L.length c4) := HI.out.1.cell 1
          have s2 : (wr.alloc (.cells #[.string yk, .int .i64 yn, .bool yg] 46)).cell? ⟨wr.heap.size, 0, none⟩ = some (.string yk) := HB12.out.cell 0
          have s3 : (wr.alloc (.cells #[.string yk, .int .i64 yn, .bool yg] 46)).cell? ⟨wr.heap.size, 1, none⟩ = some (.int .i64 yn) := HB12.out.cell 1
          have s4 : (wr.alloc (.cells #[.string yk, .int .i64 yn, .bool yg] 46)).cell? ⟨wr.heap.size, 2, none⟩ = some (.bool yg) := HB12.out.cell 2
          have hbd := (Below.refl (wr.alloc (.cells #[.string yk, .int .i64 yn, .bool yg] 46)).heap.size (wr.alloc (.cells #[.string yk, .int .i64 yn, .bool yg] 46))).drew
          have HI := Lib.hid (HI.out.below hbd)
          have HB12 := Lib.hid (HB12.out.kept hbd)
          clear hbx hbd
          go_wp2_with fail
          generalize wr.alloc (.cells #[.string yk, .int .i64 yn, .bool yg] 46) = wx at *
          clear d3 e0 e1 e2 hbl3 hblx
          generalize wr.heap.size = g12 at *
          go_region_held3 (fun W => W.cell? ⟨g4, 0, none⟩ = some (.int .i64 n) ∧ W.cell? ⟨g4, 1, none⟩ = some (.slice A4 L.length c4) ∧ W.cell? ⟨g12, 0, none⟩ = some (.string yk) ∧ W.cell? ⟨g12, 1, none⟩ = some (.int .i64 yn) ∧ W.cell? ⟨g12, 2, none⟩ = some (.bool yg))
            (first | assumption | go_keep)
            (first
              | (go_at_call 33
                 refine (rowsGet_any AX RR cX yk _ HFR.out (by omega) HX.out).mono ?_
                 rintro e wk ⟨he, hbk⟩
                 rw [← HXB.out] at he
                 simp only at he
                 subst he
                 have HI := Lib.hid (HI.out.below hbk)
                 have HB12 := Lib.hid (HB12.out.kept hbk)
                 have hkk : wk.cell? ⟨g4, 0, none⟩ = some (.int .i64 n) ∧ wk.cell? ⟨g4, 1, none⟩ = some (.slice A4 L.length c4) ∧ wk.cell? ⟨g12, 0, none⟩ = some (.string yk) ∧ wk.cell? ⟨g12, 1, none⟩ = some (.int .i64 yn) ∧ wk.cell? ⟨g12, 2, none⟩ = some (.bool yg) := ⟨HI.out.1.cell 0, HI.out.1.cell 1, HB12.out.cell 0, HB12.out.cell 1, HB12.out.cell 2⟩
                 clear hbk)
              | (go_at_call 34
                 refine (implAt_any _ _ _ _ _ _ HFL.out (by omega) HI.out.2.1).mono ?_
                 rintro e wk ⟨vk, rfl, hok, hbk⟩
                 rw [HRX.out] at hok
                 obtain ⟨AX, cX, rfl, _, _, hSX⟩ := hok.sl
                 have HX := Lib.hid hSX
                 have HI := Lib.hid (HI.out.below hbk)
                 have HB12 := Lib.hid (HB12.out.kept hbk)
                 have hkk : wk.cell? ⟨g4, 0, none⟩ = some (.int .i64 n) ∧ wk.cell? ⟨g4, 1, none⟩ = some (.slice A4 L.length c4) ∧ wk.cell? ⟨g12, 0, none⟩ = some (.string yk) ∧ wk.cell? ⟨g12, 1, none⟩ = some (.int .i64 yn) ∧ wk.cell? ⟨g12, 2, none⟩ = some (.bool yg) := ⟨HI.out.1.cell 0, HI.out.1.cell 1, HB12.out.cell 0, HB12.out.cell 1, HB12.out.cell 2⟩
                 clear hok hbk hSX))
          all_goals
            by_cases heff : effB RR (yk, yn, yg) = true
            · have HK1 := Lib.hid (show kk + 1 = ((M.take (i + 1)).filter (effB RR)).length from by rw [HCT.out, if_pos heff])
              have hat := HAT.out heff
              obtain ⟨hkb, hke⟩ := List.getElem?_eq_some_iff.1 hat
              obtain ⟨b8, o8, rfl, hbl8, d8, hSB⟩ := HI.out.2.2.2.1.look HBK.out
              simp only at d8 hSB
              obtain ⟨by_, oy, rfl, hbly, f0, f1, f2⟩ := Sl.at3 hSB hkb
              rw [hke] at f0 f1 f2
              simp only at f0 f1 f2
              have t0 := HB12.out.cell 0
              have t1 := HB12.out.cell 1
              have t2 := HB12.out.cell 2
              have hg12 := HB12.out.lt
              have dk : decide ((B.length : Int) ≤ (kk : Int)) = false := decide_eq_false (by omega)
              have dk2 : (kk : Int) < (B.length : Int) := by omega
              have hnn : (yg && !hb) = false := by
                have := HEF.out
                rw [heff] at this
                cases h : (yg && !hb)
                · rfl
                · rw [h] at this; exact absurd this (by decide)
              clear hat hke hSB heff
              cases yg <;> cases hb <;> first
                | (simp at hnn; done)
                | (clear hnn
                   go_wp2_with fail
                   refine wp_region_below (by kernel_rfl) (by kernel_rfl) ?_
                   iterate 20 (first | go_big_quiet_skip | (refine wpQuiet_step (fun K hK => ?_); go_simp; first | (apply Exists.intro; refine ⟨fun W hW => ?_, hK _ ?_⟩; (first | rfl | (have z0 := (hW.cell (p := ⟨b8, o8 + m, none⟩) hbl8).trans d8; have z1 := (hW.cell (p := ⟨by_, oy + kk * 3, none⟩) hbly).trans f0; have z2 := (hW.cell (p := ⟨by_, oy + kk * 3 + 1, none⟩) hbly).trans f1; have z3 := (hW.cell (p := ⟨by_, oy + kk * 3 + 2, none⟩) hbly).trans f2; have y0 := (hW.cell (p := ⟨g12, 0, none⟩) hg12).trans t0; have y1 := (hW.cell (p := ⟨g12, 1, none⟩) hg12).trans t1; have y2 := (hW.cell (p := ⟨g12, 2, none⟩) hg12).trans t2; go_simp; rfl)); clear hK K) | (refine hK _ ?_; clear hK K)))
                   refine wpQuiet_nil ?_
                   intro W hW
                   have HIW := Lib.hid (HI.out.below hW)
                   go_wp2
                   go_roundg (M.length - (i + 1))
                   case measure => omega
                   case rel => exact ⟨i + 1, kk + 1, by omega, by omega, by go_num, by go_num, by omega, HK1, HIW⟩)
            · have HK1 := Lib.hid (show kk = ((M.take (i + 1)).filter (effB RR)).length from by rw [HCT.out, if_neg heff]; rfl)
              have hnn : (yg && !hb) = true := by
                have := HEF.out
                cases h : (yg && !hb)
                · rw [h] at this; exact absurd this heff
                · rfl
              have t2 := HB12.out.cell 2
              cases yg <;> cases hb <;> first
                | (simp at hnn; done)
                | (clear hnn heff
                   go_wp2
                   go_roundg (M.length - (i + 1))
                   case measure => omega
                   case rel => exact ⟨i + 1, kk, by omega, by omega, rfl, by go_num, by omega, HK1, HI⟩)
        · obtain rfl : i = M.length := by omega
          have hkb : kk = B.length := by have := HKK.out; rw [List.take_length, ← HON.out] at this; exact this
          subst hkb
          obtain ⟨b8, o8, rfl, hbl8, d8, hSB⟩ := HI.out.2.2.2.1.look HBK.out
          simp only at d8 hSB
          clear hSB hSM hli hgi hi
          go_wp2
          go_roundg (qs.length - (m + 1))
          case measure => omega
          case rel => exact ⟨m + 1, by omega, by omega, by go_num, HI⟩
    · have dt : decide ((m : Int) + 1 ≤ n) = false := decide_eq_false (by have := HNN.out; omega)
      have hbe := HI.out.2.2.2.2
      go_wp2
      go_ret
      exact ⟨rfl, hbe⟩
theorem own0 : ownKnob Try.prog.godebug = none := by kernel_rfl
theorem laidOut0 : laidOutB Try.prog = true := by kernel_rfl
set_option maxRecDepth 100000 in
theorem pastOnce_lifted (os : Os) (started : os.Started) (H : Type) (enc : TypeId × Value → H) :
    ReturnsInHanded {} Try.checked os 8 .any (Rows.fnPastOnceSpec.pre6 enc Try.prog Try.f8 Rows.fnPastOnceRow.domain false) (Rows.fnPastOnceSpec.post enc Try.prog Try.f8 false true false false) := by
  refine returnsInHanded_of_change (C := Try.checked) own0 started (by kernel_rfl) Try.func8
    (ChangeSpec.witness6 (enc := enc) (C := Try.checked) false ⟨#[], #[.slice none 0 0], []⟩ 8 (by kernel_rfl) (by kernel_rfl) (by kernel_rfl) (by kernel_rfl)) ?_
  intro W base args ds gs before hval0 hW hcnd _
  have hval : ∀ (j : Nat) t v, Try.f8.params[j]? = some t → args[j]? = some v → Value.okWide Try.prog W .any base t v := hval0
  have hW' := hW
  obtain ⟨p, q, hA0, hV, rfl, hfz, hnd⟩ := hW
  have hA : DataW.TrodAll enc Try.prog W 0 (fun _ => true) true Try.f8.params.toList args.toList ds p := hA0
  rw [Try.params8] at hA hval
  obtain ⟨v0, vs0, d0, ds0, p0, q0, hargs, rfl, rfl, h0, r0⟩ := trodAll_cons hA
  obtain ⟨rfl, rfl, rfl⟩ := trodAll_nil r0
  obtain rfl : args = #[v0] := by cases args; simp_all
  obtain ⟨rfl, rfl⟩ := trodVars_none hV
  have k0 := h0
  have lt0 : ∀ x ∈ p0, x.block < W.heap.size := by obtain ⟨m, hm⟩ := k0; exact DataW.trod_lt m _ _ _ hm
  obtain ⟨A0, bs0, c0, rfl, hb0, hR0⟩ := open_bytes (hval 0 38 v0 rfl rfl) h0
  clear hA0 hval0
  refine (lawPastOnce A0 bs0 c0 W hb0.1 hb0.2 hR0).mono fun e W' ⟨he, bel⟩ => ?_
  subst he
  exact ⟨_, rfl, _, _, _, [], _, [], hW', trodAll_mk1 (shut_bool Try.underlying4 _), (trodAll_cons_mk (Below.trod laidOut0 (by kernel_rfl) (of_decide_eq_true (by kernel_rfl)) k0 bel lt0) trodAll_mk0), rfl, bel.frame _, fun h => by cases h⟩
theorem pastOnce_holds : Rows.FnPastOnceSaid :=
  OpenClaim.holds_of_wide 8 Try.f8 rfl rfl rfl rfl rfl rfl rfl ⟨rfl, rfl, rfl, rfl, rfl⟩ rfl rfl rfl rfl rfl (by kernel_rfl) Try.func8 (by kernel_rfl)
    (of_decide_eq_true (by kernel_rfl)) (by unfold Func.isWrapper; first | (rw [if_pos (by decide +kernel)]; kernel_rfl) | (rw [if_neg (by decide +kernel)]; exact ⟨rfl, rfl⟩))
    (fun os started H enc _ => pastOnce_lifted os started H enc)
#print axioms pastOnce_holds
end Go.Proofs.Ytpjkcmmmpgncmaa
