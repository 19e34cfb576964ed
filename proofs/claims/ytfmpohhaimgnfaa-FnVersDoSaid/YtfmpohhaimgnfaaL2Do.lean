/- The reference's l2Do and VersDo. -/
import Derived.Test.YtfmpohhaimgnfaaL2W
import Derived.Test.YtfmpohhaimgnfaaSWrt
import Derived.Test.YtfmpohhaimgnfaaVerS
import Derived.Test.YtfmpohhaimgnfaaImplDo
namespace Go.Proofs.Ytfmpohhaimgnfaa
open Go.RowKit
/-- what the reference's l2Do answers -/
noncomputable def doR (now : Int) (l : List Ver) (ws : List Wri) : (Int × List Ver) × Bool :=
  if versB (now + 1) (doS (now + 1) l ws) = true then ((now + 1, doS (now + 1) l ws), true) else ((now, l), false)
set_option maxRecDepth 100000 in
set_option maxHeartbeats 1000000 in
theorem l2Do_any (A A2 : Option Addr) (l : List Ver) (ws : List Wri) (c c2 : Nat) (now : Int) (w : World) (hl : l.length ≤ 400) (hws : ws.length ≤ 400) (hn0 : 0 ≤ now) (hn1 : now ≤ 1000) (hf : FitsV l) (hf2 : FitsW ws) (hR : Sl encVer 4 w A l) (hR2 : Sl encWri 3 w A2 ws) :
    Calls Try.prog 70 #[.agg #[.int .i64 now, .slice A l.length c], .slice A2 ws.length c2] w (DoPost w (doR now l ws)) := by
  have hb0 := ((Below.refl w.heap.size w).alloc (Nat.le_refl _) (.cells #[.int .i64 now, .slice A l.length c] 25)).alloc (by simp) (.cells #[.int .i64 0, .slice none 0 0] 25)
  have hB1 := (Blk.new w 25 #[.int .i64 now, .slice A l.length c]).alloc (.cells #[.int .i64 0, .slice none 0 0] 25)
  have hB2 := Blk.new (w.alloc (.cells #[.int .i64 now, .slice A l.length c] 25)) 25 #[.int .i64 0, .slice none 0 0]
  have hsz : ((w.alloc (.cells #[.int .i64 now, .slice A l.length c] 25)).alloc (.cells #[.int .i64 0, .slice none 0 0] 25)).heap.size = w.heap.size + 2 := by simp
  rw [World.size_alloc] at hB2
  have hn3 : IntKind.i64.wrap (now + 1) = now + 1 := by rw [IntKind.wrap_i64]; omega
  have HDL := Lib.hid (fun k => doS_len (now + 1) (ws.take k) l)
  have HFT := Lib.hid (show FitsV (doS (now + 1) l ws) from ⟨Nat.le_trans (doS_len (now + 1) ws l) (by unfold maxLen; omega), doS_fits ws l hf.2 hf2.2⟩)
  go_enter Try.func70, Try.ntmps70
  go_wp2_with fail
  generalize (w.alloc (.cells #[.int .i64 now, .slice A l.length c] 25)).alloc (.cells #[.int .i64 0, .slice none 0 0] 25) = w0 at *
  refine (l2Copy_any A l c now w0 (by omega) (hR.below hb0)).mono ?_
  rintro e w1 ⟨v0, rfl, hown0, hb1⟩
  obtain ⟨A0, c0, rfl, _, _, hS0⟩ := hown0.sl
  clear hS0
  have hs1 := hb1.size
  have hB3 := Blk.new w1 25 #[.int .i64 now, .slice A0 l.length c0]
  have hown1 : OwnV (w1.alloc (.cells #[.int .i64 now, .slice A0 l.length c0] 25)) (w.heap.size + 2) (.slice A0 l.length c0) l := hsz ▸ hown0.alloc _
  have hb2 := (hb0.trans (hb1.mono (by omega))).alloc (by omega) (.cells #[.int .i64 now, .slice A0 l.length c0] 25)
  have hB2' := (hB2.kept hb1).alloc (.cells #[.int .i64 now, .slice A0 l.length c0] 25)
  have hB1' := (hB1.kept hb1).alloc (.cells #[.int .i64 now, .slice A0 l.length c0] 25)
  have hs2 : (w1.alloc (.cells #[.int .i64 now, .slice A0 l.length c0] 25)).heap.size = w1.heap.size + 1 := by simp
  have r0 : (w1.alloc (.cells #[.int .i64 now, .slice A0 l.length c0] 25)).cell? ⟨w1.heap.size, 0, none⟩ = some (.int .i64 now) := hB3.cell 0
  have r1 := hB3.frozen 0
  have r2 : (w1.alloc (.cells #[.int .i64 now, .slice A0 l.length c0] 25)).cell? ⟨w.heap.size, 0, none⟩ = some (.int .i64 now) := hB1'.cell 0
  generalize hW2 : w1.alloc (.cells #[.int .i64 now, .slice A0 l.length c0] 25) = w2 at *
  clear hB1 hB2 hown0 hb1
  have HCM := Lib.hid (show Cm w (w.heap.size + 2) w1.heap.size (now + 1) l (w2.setCell ⟨w1.heap.size, 0, none⟩ (.int .i64 (now + 1))) from ⟨.slice A0 l.length c0, ownsRow_setCell_other hown1 (Ne.symm (own_ne hown1 hB3)) _, hB3.set_ 0 _, hb2.setCell (by simp; omega) _⟩)
  have HB4 := Lib.hid (hB2'.far (p := ⟨w1.heap.size, 0, none⟩) (by simp; omega) (.int .i64 (now + 1)))
  have HB1 := Lib.hid (hB1'.far (p := ⟨w1.heap.size, 0, none⟩) (by simp; omega) (.int .i64 (now + 1)))
  go_wp2
  clear hW2 hB3 hown1 hb2 hB2' hB1' hs2 r0 r1 r2
  have hg5 : w.heap.size + 2 ≤ w1.heap.size := by omega
  generalize w1.heap.size = g5 at *
  generalize w2.setCell ⟨g5, 0, none⟩ (.int .i64 (now + 1)) = w3 at *
  go_loopw [7] (fun i wr => ∃ k : Nat, k ≤ ws.length ∧ i = .int .i64 k ∧ Hid (Cm w (w.heap.size + 2) g5 (now + 1) (doS (now + 1) l (ws.take k)) wr) ∧ Hid (Blk wr (w.heap.size + 1) 25 #[.int .i64 0, .slice none 0 0]) ∧ Hid (Blk wr w.heap.size 25 #[.int .i64 now, .slice A l.length c])) (fun i _ => ws.length - (intOf i).toNat)
  case atStart => exact ⟨0, by omega, rfl, by rw [List.take_zero]; exact HCM.out, HB4.out, HB1.out⟩
  case round =>
    obtain ⟨k, hk, rfl, HI, H4, H1⟩ := hrel
    obtain ⟨v, hown, hb5, hbw⟩ := HI.out
    clear HI HCM HB4 HB1
    by_cases hlt : k < ws.length
    · obtain ⟨b2, o2, rfl, hbl2, c0, c1, c2⟩ := Sl.at3 (hR2.below hbw) hlt
      have HD := Lib.hid (doS_take (now := now + 1) (l := l) hlt)
      have hL : (doS (now + 1) l (ws.take k)).length ≤ 800 := by have := HDL.out k; rw [List.length_take] at this; omega
      generalize doS (now + 1) l (ws.take k) = L at *
      generalize ws[k] = x at *
      obtain ⟨kk, n, gn⟩ := x
      simp only at c0 c1 c2
      obtain ⟨A', c', rfl, hLc, hcm, hS⟩ := hown.sl
      clear hS
      have y0 : wr.cell? ⟨g5, 0, none⟩ = some (.int .i64 (now + 1)) := hb5.cell 0
      have y1 : wr.cell? ⟨g5, 1, none⟩ = some (.slice A' L.length c') := hb5.cell 1
      have hki : (k : Int) < (ws.length : Int) := by omega
      have hbd := (Below.refl wr.heap.size wr).drew
      have HC := Lib.hid (l2Write_any (w.heap.size + 2) A' c' L (kk, n, gn) (now + 1) wr.drew (by have := hown.lt; have := hbw.size; have := hb5.lt; show w.heap.size + 2 ≤ wr.heap.size; omega) (by omega) (own_kept hown hbd))
      have HB5 := Lib.hid (hb5.drew)
      have H4d := Lib.hid (H4.out.drew)
      have H1d := Lib.hid (H1.out.drew)
      have HNE := Lib.hid (own_ne hown hb5)
      have HNE4 := Lib.hid (own_ne hown H4.out)
      have HNE1 := Lib.hid (own_ne hown H1.out)
      have HLT := Lib.hid hown.lt
      have HBW := Lib.hid hbw.drew
      have hg5l := hb5.lt
      clear hown hb5 hbw H4 H1 hR hR2 hbd
      go_wp2_with fail
      go_region_with (go_at_call 116; refine HC.out.mono ?_; rintro e w4 ⟨v4, rfl, hown4, hg4⟩; obtain ⟨A4, c4, rfl, _, _, hS4⟩ := hown4.sl; clear hS4; have hb54 := HB5.out.grown hg4 HNE.out; have z1 := hb54.frozen 1; have z2 : w4.cell? ⟨g5, 1, none⟩ = some (.slice A' L.length c') := hb54.cell 1; have HB54 := Lib.hid hb54; have H44 := Lib.hid (H4d.out.grown hg4 HNE4.out); have H14 := Lib.hid (H1d.out.grown hg4 HNE1.out); have HB4 := Lib.hid (below_own HBW.out hg4 (by have := HBW.out.size; exact this) (fun j hj => by have := (HLT.out j hj).1; omega)); have HO4 := Lib.hid hown4; clear hown4 hb54 hg4)
      all_goals
        have HCM2 := Lib.hid (show Cm w (w.heap.size + 2) g5 (now + 1) (writeS (now + 1) L (kk, n, gn)) (w4.setCell ⟨g5, 1, none⟩ (.slice A4 (writeS (now + 1) L (kk, n, gn)).length c4)) from ⟨_, ownsRow_setCell_other HO4.out (Ne.symm (own_ne HO4.out HB54.out)) _, HB54.out.set_ 1 _, HB4.out.setCell (by simp; omega) _⟩)
        have H42 := Lib.hid (H44.out.far (p := ⟨g5, 1, none⟩) (by simp; omega) (.slice A4 (writeS (now + 1) L (kk, n, gn)).length c4))
        have H12 := Lib.hid (H14.out.far (p := ⟨g5, 1, none⟩) (by simp; omega) (.slice A4 (writeS (now + 1) L (kk, n, gn)).length c4))
        generalize w4.setCell ⟨g5, 1, none⟩ (.slice A4 (writeS (now + 1) L (kk, n, gn)).length c4) = w6 at *
        clear z1 z2
        go_wp2
        go_roundw
        case rel => exact ⟨k + 1, by omega, by go_num, by rw [HD.out]; exact HCM2.out, H42.out, H12.out⟩
        case measure => simp [intOf]; omega
    · obtain rfl : k = ws.length := by omega
      rw [List.take_length] at *
      obtain ⟨A', c', rfl, _, _, hS⟩ := hown.sl
      have HDR := Lib.hid (show doR now l ws = if versB (now + 1) (doS (now + 1) l ws) = true then ((now + 1, doS (now + 1) l ws), true) else ((now, l), false) from rfl)
      have HVO := Lib.hid (specVersOk_any A' (doS (now + 1) l ws) c' (now + 1) wr HFT.out (by have := doS_len (now + 1) ws l; omega) hS)
      have y0 : wr.cell? ⟨g5, 0, none⟩ = some (.int .i64 (now + 1)) := hb5.cell 0
      have y1 : wr.cell? ⟨g5, 1, none⟩ = some (.slice A' (doS (now + 1) l ws).length c') := hb5.cell 1
      have HOW := Lib.hid hown
      have HB5 := Lib.hid hb5
      have HBW := Lib.hid hbw
      have HR := Lib.hid hR
      clear hown hb5 hbw hS hR hR2
      generalize doS (now + 1) l ws = L at *
      go_wp2_with fail
      refine HVO.out.mono ?_
      rintro e w5 ⟨rfl, hb5⟩
      have hB5 := HB5.out.kept hb5
      have hB4 := H4.out.kept hb5
      have hB1 := H1.out.kept hb5
      have hbw5 := HBW.out.trans (hb5.mono HBW.out.size)
      have hown5 : OwnV w5 (w.heap.size + 2) (.slice A' L.length c') L := own_kept HOW.out hb5
      clear HB5 H4 H1 HBW HOW y0 y1 hb5 HVO
      cases hq : versB (now + 1) L
      · have HDR2 := Lib.hid (show doR now l ws = ((now, l), false) by rw [HDR.out, if_neg (by rw [hq]; simp)])
        have r0 : w5.cell? ⟨w.heap.size, 0, none⟩ = some (.int .i64 now) := hB1.cell 0
        have r1 : w5.cell? ⟨w.heap.size, 1, none⟩ = some (.slice A l.length c) := hB1.cell 1
        have HC := Lib.hid (l2Copy_any A l c now w5 (by omega) (HR.out.below hbw5))
        have HB := Lib.hid hB4
        have HBW := Lib.hid hbw5
        clear hB4 hB5 hB1 hbw5 hown5
        go_wp2_with fail
        refine HC.out.mono ?_
        rintro e w6 ⟨v, rfl, hown, hb3⟩
        obtain ⟨A6, c6, rfl, _, _, hS⟩ := hown.sl
        have hB3 := HB.out.kept hb3
        have hbw3 := HBW.out.trans (hb3.mono HBW.out.size)
        have hsz5 := HBW.out.size
        have hlt4 := HB.out.lt
        have z0 := hB3.frozen 0
        have z1 := hB3.frozen 1
        have x0 : w6.cell? ⟨w.heap.size + 1, 0, none⟩ = some (.int .i64 0) := hB3.cell 0
        have x1 : w6.cell? ⟨w.heap.size + 1, 1, none⟩ = some (.slice none 0 0) := hB3.cell 1
        have HOW := Lib.hid (own_set (own_set hown (p := ⟨w.heap.size + 1, 0, none⟩) (by simp; omega) (.int .i64 now)) (p := ⟨w.heap.size + 1, 1, none⟩) (by simp; omega) (.slice A6 l.length c6))
        obtain ⟨q0, q1⟩ := hB3.two (.int .i64 now) (.slice A6 l.length c6)
        clear hS hown
        go_wp2
        rw [HDR2.out]
        refine bodyPost_ret (v := .tuple #[.agg #[.int .i64 now, .slice A6 l.length c6], .bool false]) (by simp [results, Try.results70, go_sem, q0, q1]) rfl ⟨_, rfl, OwnV.le HOW.out (by omega), (hbw3.setCell (by simp) _).setCell (by simp) _⟩
      · have HDR2 := Lib.hid (show doR now l ws = ((now + 1, L), true) by rw [HDR.out, if_pos hq])
        have r0 : w5.cell? ⟨g5, 0, none⟩ = some (.int .i64 (now + 1)) := hB5.cell 0
        have r1 : w5.cell? ⟨g5, 1, none⟩ = some (.slice A' L.length c') := hB5.cell 1
        have z0 := hB4.frozen 0
        have z1 := hB4.frozen 1
        have x0 : w5.cell? ⟨w.heap.size + 1, 0, none⟩ = some (.int .i64 0) := hB4.cell 0
        have x1 : w5.cell? ⟨w.heap.size + 1, 1, none⟩ = some (.slice none 0 0) := hB4.cell 1
        have HOW := Lib.hid (own_set (own_set hown5 (p := ⟨w.heap.size + 1, 0, none⟩) (by simp) (.int .i64 (now + 1))) (p := ⟨w.heap.size + 1, 1, none⟩) (by simp) (.slice A' L.length c'))
        obtain ⟨q0, q1⟩ := hB4.two (.int .i64 (now + 1)) (.slice A' L.length c')
        clear hown5 hB5 hB4 hB1
        go_wp2
        rw [HDR2.out]
        refine bodyPost_ret (v := .tuple #[.agg #[.int .i64 (now + 1), .slice A' L.length c'], .bool true]) (by simp [results, Try.results70, go_sem, q0, q1]) rfl ⟨_, rfl, OwnV.le HOW.out (by omega), (hbw5.setCell (by simp) _).setCell (by simp) _⟩
theorem doV_eq (now : Int) (l : List Ver) (ws : List Wri) : doV now l ws = if versB now l = true then (if wrsB 6 ws = true then doR now l ws else ((now, l), false)) else ((0, []), false) := rfl
theorem doR_len {now : Int} {l : List Ver} {ws : List Wri} (hl : l.length ≤ 400) (hws : ws.length ≤ 400) : (doR now l ws).1.2.length ≤ 800 := by
  unfold doR
  have := doS_len (now + 1) ws l
  split <;> simp only <;> omega
set_option maxRecDepth 100000 in
set_option maxHeartbeats 2000000 in
theorem specVersDo_any (A A2 : Option Addr) (l : List Ver) (ws : List Wri) (c c2 : Nat) (now : Int) (w : World) (hf : FitsV l) (hn : l.length ≤ 1048576) (hf2 : FitsW ws) (hn2 : ws.length ≤ 1048576) (hR : Sl encVer 4 w A l) (hR2 : Sl encWri 3 w A2 ws) :
    Calls Try.prog 17 #[.agg #[.int .i64 now, .slice A l.length c], .slice A2 ws.length c2] w (DoPost w (doV now l ws)) := by
  have hb0 := ((Below.refl w.heap.size w).alloc (Nat.le_refl _) (.cells #[.int .i64 now, .slice A l.length c] 25)).alloc (by simp) (.cells #[.int .i64 0, .slice none 0 0] 25)
  have hB1 := (Blk.new w 25 #[.int .i64 now, .slice A l.length c]).alloc (.cells #[.int .i64 0, .slice none 0 0] 25)
  have hB2 := Blk.new (w.alloc (.cells #[.int .i64 now, .slice A l.length c] 25)) 25 #[.int .i64 0, .slice none 0 0]
  have hsz : ((w.alloc (.cells #[.int .i64 now, .slice A l.length c] 25)).alloc (.cells #[.int .i64 0, .slice none 0 0] 25)).heap.size = w.heap.size + 2 := by simp
  rw [World.size_alloc] at hB2
  go_enter Try.func17, Try.ntmps17
  go_wp2_with fail
  generalize (w.alloc (.cells #[.int .i64 now, .slice A l.length c] 25)).alloc (.cells #[.int .i64 0, .slice none 0 0] 25) = w0 at *
  refine (specVersOk_any A l c now w0 hf hn (hR.below hb0)).mono ?_
  rintro e w1 ⟨rfl, hb1⟩
  have hbw1 := hb0.trans (hb1.mono (by omega))
  have hB11 := hB1.kept hb1
  have hB21 := hB2.kept hb1
  have hs1 := hb1.size
  clear hB1 hB2 hb0 hb1
  cases hv : versB now l
  · have HR := Lib.hid (show doV now l ws = ((0, []), false) by unfold doV; rw [if_neg (by rw [hv]; simp)])
    have z0 := hB21.frozen 0
    have z1 := hB21.frozen 1
    have x0 : w1.cell? ⟨w.heap.size + 1, 0, none⟩ = some (.int .i64 0) := hB21.cell 0
    have x1 : w1.cell? ⟨w.heap.size + 1, 1, none⟩ = some (.slice none 0 0) := hB21.cell 1
    obtain ⟨q0, q1⟩ := hB21.two (.int .i64 0) (.slice none 0 0)
    go_wp2
    rw [HR.out]
    refine bodyPost_ret (v := .tuple #[.agg #[.int .i64 0, .slice none 0 0], .bool false]) (by simp [results, Try.results17, go_sem, q0, q1]) rfl ⟨_, rfl, ⟨rfl, .inl ⟨rfl, rfl⟩⟩, (hbw1.setCell (by simp) _).setCell (by simp) _⟩
  · obtain ⟨⟨hn0, hn1, hl60⟩, _⟩ := versB_out hv
    have HV := Lib.hid hv
    have r0 : w1.cell? ⟨w.heap.size, 0, none⟩ = some (.int .i64 now) := hB11.cell 0
    have r1 : w1.cell? ⟨w.heap.size, 1, none⟩ = some (.slice A l.length c) := hB11.cell 1
    have HWO := Lib.hid (specWritesOk_any A2 ws c2 w1 hf2 hn2 (hR2.below hbw1))
    clear hv
    go_wp2_with fail
    refine HWO.out.mono ?_
    rintro e w2 ⟨rfl, hb2⟩
    have hbw2 := hbw1.trans (hb2.mono hbw1.size)
    have hB12 := hB11.kept hb2
    have hB22 := hB21.kept hb2
    have hs2 := hb2.size
    clear r0 r1 hB11 hB21 hb2 HWO
    have r0 : w2.cell? ⟨w.heap.size, 0, none⟩ = some (.int .i64 now) := hB12.cell 0
    have r1 : w2.cell? ⟨w.heap.size, 1, none⟩ = some (.slice A l.length c) := hB12.cell 1
    cases hw : wrsB 6 ws
    · have HR := Lib.hid (show doV now l ws = ((now, l), false) by unfold doV; rw [if_pos HV.out, if_neg (by rw [hw]; simp)])
      have HC := Lib.hid (l2Copy_any A l c now w2 hn (hR.below hbw2))
      have HB := Lib.hid hB22
      have HBW := Lib.hid hbw2
      clear hB12 hB22 hbw2 hbw1 hR hR2
      go_wp2_with fail
      refine HC.out.mono ?_
      rintro e w3 ⟨v, rfl, hown, hb3⟩
      obtain ⟨A', c', rfl, _, _, hS⟩ := hown.sl
      have hB3 := HB.out.kept hb3
      have hbw3 := HBW.out.trans (hb3.mono HBW.out.size)
      have z0 := hB3.frozen 0
      have z1 := hB3.frozen 1
      have x0 : w3.cell? ⟨w.heap.size + 1, 0, none⟩ = some (.int .i64 0) := hB3.cell 0
      have x1 : w3.cell? ⟨w.heap.size + 1, 1, none⟩ = some (.slice none 0 0) := hB3.cell 1
      have HOW := Lib.hid (own_set (own_set hown (p := ⟨w.heap.size + 1, 0, none⟩) (by simp; omega) (.int .i64 now)) (p := ⟨w.heap.size + 1, 1, none⟩) (by simp; omega) (.slice A' l.length c'))
      obtain ⟨q0, q1⟩ := hB3.two (.int .i64 now) (.slice A' l.length c')
      clear hS hown
      go_wp2
      rw [HR.out]
      refine bodyPost_ret (v := .tuple #[.agg #[.int .i64 now, .slice A' l.length c'], .bool false]) (by simp [results, Try.results17, go_sem, q0, q1]) rfl ⟨_, rfl, OwnV.le HOW.out (by omega), (hbw3.setCell (by simp) _).setCell (by simp) _⟩
    · have hws6 := (wrsB_iff.1 hw).1
      have HR := Lib.hid (show doV now l ws = doR now l ws by rw [doV_eq, if_pos HV.out, if_pos hw])
      have HC := Lib.hid (l2Do_any A A2 l ws c c2 now w2 (by omega) (by omega) hn0 (by omega) hf hf2 (hR.below hbw2) (hR2.below hbw2))
      have HLN := Lib.hid (show (doR now l ws).1.2.length ≤ 1048576 by have := doR_len (now := now) (l := l) (ws := ws) (by omega) (by omega); omega)
      have HB := Lib.hid hB22
      have HBW := Lib.hid hbw2
      clear hB12 hB22 hbw2 hbw1 hR hR2 hw
      generalize doR now l ws = R at *
      obtain ⟨⟨nw, L⟩, ok⟩ := R
      simp only at HLN
      go_wp2_with fail
      refine HC.out.mono ?_
      rintro e w3 ⟨v, rfl, hown, hb3⟩
      simp only at hown ⊢
      obtain ⟨A', c', rfl, _, _, hS⟩ := hown.sl
      have hs3 := hb3.size
      have hbn := (Below.refl w3.heap.size w3).alloc (Nat.le_refl _) (.cells #[.int .i64 nw, .slice A' L.length c'] 25)
      have HCC := Lib.hid (l2Copy_any A' L c' nw (w3.alloc (.cells #[.int .i64 nw, .slice A' L.length c'] 25)) HLN.out (hS.below hbn))
      have HB3 := Lib.hid ((HB.out.kept hb3).kept hbn)
      have HBW3 := Lib.hid ((HBW.out.trans (hb3.mono HBW.out.size)).alloc (by omega) (.cells #[.int .i64 nw, .slice A' L.length c'] 25))
      clear hS hown hbn hb3 HC
      go_wp2_with fail
      refine HCC.out.mono ?_
      rintro e w5 ⟨v5, rfl, hown5, hb5⟩
      obtain ⟨A5, c5, rfl, _, _, hS5⟩ := hown5.sl
      have hs5 := hb5.size
      have hB5 := HB3.out.kept hb5
      have hbw5 := HBW3.out.trans (hb5.mono HBW3.out.size)
      have hsz5 := HBW3.out.size
      have hlt4 := HB3.out.lt
      have z0 := hB5.frozen 0
      have z1 := hB5.frozen 1
      have x0 : w5.cell? ⟨w.heap.size + 1, 0, none⟩ = some (.int .i64 0) := hB5.cell 0
      have x1 : w5.cell? ⟨w.heap.size + 1, 1, none⟩ = some (.slice none 0 0) := hB5.cell 1
      have HOW := Lib.hid (own_set (own_set hown5 (p := ⟨w.heap.size + 1, 0, none⟩) hlt4 (.int .i64 nw)) (p := ⟨w.heap.size + 1, 1, none⟩) hlt4 (.slice A5 L.length c5))
      obtain ⟨q0, q1⟩ := hB5.two (.int .i64 nw) (.slice A5 L.length c5)
      clear hS5 hown5
      go_wp2
      rw [HR.out]
      refine bodyPost_ret (v := .tuple #[.agg #[.int .i64 nw, .slice A5 L.length c5], .bool ok]) (by simp [results, Try.results17, go_sem, q0, q1]) rfl ⟨_, rfl, OwnV.le HOW.out hsz5, (hbw5.setCell (by simp) _).setCell (by simp) _⟩
end Go.Proofs.Ytfmpohhaimgnfaa
