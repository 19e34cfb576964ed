import Derived.RangeFuncNested
import Derived.RangeFuncBound
import Derived.RangeFuncCalls
import Derived.RangeFuncLeaves
import Derived.RangeFuncWrites
import Derived.RangeFuncBox
import Derived.Shelf.Abstract
import Derived.Shelf.RegionOpen
import Derived.WalkKit
import Derived.OwnWalkIn
import Derived.TacticsInMore
import Derived.LoopNIn
import Derived.LoopIn
import Derived.Test.YtfmhhckkpenldaaGreatDoorCommit
import Derived.Test.YtfmhhckkpenldaaGreatDoorM08
import Derived.Test.YtfmhhckkpenldaaGreatDoorM04
import Derived.Test.YtfmhhckkpenldaaGreatDoorM19
import Derived.Test.YtfmhhckkpenldaaGreatDoorM10
import Derived.Test.YtfmhhckkpenldaaGreatDoorVerS
/- The program's VersDo. -/
namespace Go.Proofs.YtfmhhckkpenldaaGreatDoor
open Go.RowKit
/-- an answer of a store and a truth value, in memory of one's own -/
def DoPost (w : World) (r : (Int × List Ver) × Bool) (e : Ending) (w' : World) : Prop :=
  ∃ v, e = .returned (.tuple #[.agg #[.int .i64 r.1.1, v], .bool r.2]) ∧ OwnV w' w.heap.size v r.1.2 ∧ Below w.heap.size w w'
end Go.Proofs.YtfmhhckkpenldaaGreatDoor
/- The reference's l2Do and VersDo. -/
namespace Go.Proofs.YtfmhhckkpenldaaGreatDoor
open Go.RowKit
/-- what the reference's l2Do answers -/
noncomputable def doR (now : Int) (l : List Ver) (ws : List Wri) : (Int × List Ver) × Bool :=
  if versB (now + 1) (doS (now + 1) l ws) = true then ((now + 1, doS (now + 1) l ws), true) else ((now, l), false)
set_option maxRecDepth 100000 in
set_option maxHeartbeats 1000000 in
theorem l2Do_any (A A2 : Option Addr) (l : List Ver) (ws : List Wri) (c c2 : Nat) (now : Int) (w : World) (hl : l.length ≤ 400) (hws : ws.length ≤ 400) (hn0 : 0 ≤ now) (hn1 : now ≤ 1000) (hf : FitsV l) (hf2 : FitsW ws) (hR : Sl encVer 4 w A l) (hR2 : Sl encWri 3 w A2 ws) :
    Calls Tryz.prog 26 #[.agg #[.int .i64 now, .slice A l.length c], .slice A2 ws.length c2] w (DoPost w (doR now l ws)) := by
  have hb0 := ((Below.refl w.heap.size w).alloc (Nat.le_refl _) (.cells #[.int .i64 now, .slice A l.length c] 36)).alloc (by simp) (.cells #[.int .i64 0, .slice none 0 0] 36)
  have hB1 := (Blk.new w 36 #[.int .i64 now, .slice A l.length c]).alloc (.cells #[.int .i64 0, .slice none 0 0] 36)
  have hB2 := Blk.new (w.alloc (.cells #[.int .i64 now, .slice A l.length c] 36)) 36 #[.int .i64 0, .slice none 0 0]
  have hsz : ((w.alloc (.cells #[.int .i64 now, .slice A l.length c] 36)).alloc (.cells #[.int .i64 0, .slice none 0 0] 36)).heap.size = w.heap.size + 2 := by simp
  rw [World.size_alloc] at hB2
  have hn3 : IntKind.i64.wrap (now + 1) = now + 1 := by rw [IntKind.wrap_i64]; omega
  have HDL := Lib.hid (fun k => doS_len (now + 1) (ws.take k) l)
  have HFT := Lib.hid (show FitsV (doS (now + 1) l ws) from ⟨Nat.le_trans (doS_len (now + 1) ws l) (by unfold maxLen; omega), doS_fits ws l hf.2 hf2.2⟩)
  go_enter Tryz.func26, Tryz.ntmps26
  go_wp2_with fail
  generalize (w.alloc (.cells #[.int .i64 now, .slice A l.length c] 36)).alloc (.cells #[.int .i64 0, .slice none 0 0] 36) = w0 at *
  refine (l2Copy_any A l c now w0 (by omega) (hR.below hb0)).mono ?_
  rintro e w1 ⟨v0, rfl, hown0, hb1⟩
  obtain ⟨A0, c0, rfl, _, _, hS0⟩ := hown0.sl
  clear hS0
  have hs1 := hb1.size
  have hB3 := Blk.new w1 36 #[.int .i64 now, .slice A0 l.length c0]
  have hown1 : OwnV (w1.alloc (.cells #[.int .i64 now, .slice A0 l.length c0] 36)) (w.heap.size + 2) (.slice A0 l.length c0) l := hsz ▸ hown0.alloc _
  have hb2 := (hb0.trans (hb1.mono (by omega))).alloc (by omega) (.cells #[.int .i64 now, .slice A0 l.length c0] 36)
  have hB2' := (hB2.kept hb1).alloc (.cells #[.int .i64 now, .slice A0 l.length c0] 36)
  have hB1' := (hB1.kept hb1).alloc (.cells #[.int .i64 now, .slice A0 l.length c0] 36)
  have hs2 : (w1.alloc (.cells #[.int .i64 now, .slice A0 l.length c0] 36)).heap.size = w1.heap.size + 1 := by simp
  have r0 : (w1.alloc (.cells #[.int .i64 now, .slice A0 l.length c0] 36)).cell? ⟨w1.heap.size, 0, none⟩ = some (.int .i64 now) := hB3.cell 0
  have r1 := hB3.frozen 0
  have r2 : (w1.alloc (.cells #[.int .i64 now, .slice A0 l.length c0] 36)).cell? ⟨w.heap.size, 0, none⟩ = some (.int .i64 now) := hB1'.cell 0
  generalize hW2 : w1.alloc (.cells #[.int .i64 now, .slice A0 l.length c0] 36) = w2 at *
  clear hB1 hB2 hown0 hb1
  have HCM := Lib.hid (show Cm w (w.heap.size + 2) w1.heap.size (now + 1) l (w2.setCell ⟨w1.heap.size, 0, none⟩ (.int .i64 (now + 1))) from ⟨.slice A0 l.length c0, ownsRow_setCell_other hown1 (Ne.symm (own_ne hown1 hB3)) _, hB3.set_ 0 _, hb2.setCell (by simp; omega) _⟩)
  have HB4 := Lib.hid (hB2'.far (p := ⟨w1.heap.size, 0, none⟩) (by simp; omega) (.int .i64 (now + 1)))
  have HB1 := Lib.hid (hB1'.far (p := ⟨w1.heap.size, 0, none⟩) (by simp; omega) (.int .i64 (now + 1)))
  go_wp2
  clear hW2 hB3 hown1 hb2 hB2' hB1' hs2 r0 r1 r2
  have hg5 : w.heap.size + 2 ≤ w1.heap.size := by omega
  generalize w1.heap.size = g5 at *
  generalize w2.setCell ⟨g5, 0, none⟩ (.int .i64 (now + 1)) = w3 at *
  go_loopw [7] (fun i wr => ∃ k : Nat, k ≤ ws.length ∧ i = .int .i64 k ∧ Hid (Cm w (w.heap.size + 2) g5 (now + 1) (doS (now + 1) l (ws.take k)) wr) ∧ Hid (Blk wr (w.heap.size + 1) 36 #[.int .i64 0, .slice none 0 0]) ∧ Hid (Blk wr w.heap.size 36 #[.int .i64 now, .slice A l.length c])) (fun i _ => ws.length - (intOf i).toNat)
  case atStart => exact ⟨0, by omega, rfl, by rw [List.take_zero]; exact HCM.out, HB4.out, HB1.out⟩
  case round =>
    obtain ⟨k, hk, rfl, HI, H4, H1⟩ := hrel
    obtain ⟨v, hown, hb5, hbw⟩ := HI.out
    clear HI HCM HB4 HB1
    by_cases hlt : k < ws.length
    · obtain ⟨b2, o2, rfl, hbl2, c0, c1, c2⟩ := Sl.at3 (hR2.below hbw) hlt
      have HD := Lib.hid (doS_take (now := now + 1) (l := l) hlt)
      have hL : (doS (now + 1) l (ws.take k)).length ≤ 800 := by have := HDL.out k; rw [List.length_take] at this; omega
      generalize doS (now + 1) l (ws.take k) = L at *
      generalize ws[k] = x at *
      obtain ⟨kk, n, gn⟩ := x
      simp only at c0 c1 c2
      obtain ⟨A', c', rfl, hLc, hcm, hS⟩ := hown.sl
      clear hS
      have y0 : wr.cell? ⟨g5, 0, none⟩ = some (.int .i64 (now + 1)) := hb5.cell 0
      have y1 : wr.cell? ⟨g5, 1, none⟩ = some (.slice A' L.length c') := hb5.cell 1
      have hki : (k : Int) < (ws.length : Int) := by omega
      have hbd := (Below.refl wr.heap.size wr).drew
      have HC := Lib.hid (l2Write_any (w.heap.size + 2) A' c' L (kk, n, gn) (now + 1) wr.drew (by have := hown.lt; have := hbw.size; have := hb5.lt; show w.heap.size + 2 ≤ wr.heap.size; omega) (by omega) (own_kept hown hbd))
      have HB5 := Lib.hid (hb5.drew)
      have H4d := Lib.hid (H4.out.drew)
      have H1d := Lib.hid (H1.out.drew)
      have HNE := Lib.hid (own_ne hown hb5)
      have HNE4 := Lib.hid (own_ne hown H4.out)
      have HNE1 := Lib.hid (own_ne hown H1.out)
      have HLT := Lib.hid hown.lt
      have HBW := Lib.hid hbw.drew
      have hg5l := hb5.lt
      clear hown hb5 hbw H4 H1 hR hR2 hbd
      go_wp2_with fail
      go_region_with (go_at_call 47; refine HC.out.mono ?_; rintro e w4 ⟨v4, rfl, hown4, hg4⟩; obtain ⟨A4, c4, rfl, _, _, hS4⟩ := hown4.sl; clear hS4; have hb54 := HB5.out.grown hg4 HNE.out; have z1 := hb54.frozen 1; have z2 : w4.cell? ⟨g5, 1, none⟩ = some (.slice A' L.length c') := hb54.cell 1; have HB54 := Lib.hid hb54; have H44 := Lib.hid (H4d.out.grown hg4 HNE4.out); have H14 := Lib.hid (H1d.out.grown hg4 HNE1.out); have HB4 := Lib.hid (below_own HBW.out hg4 (by have := HBW.out.size; exact this) (fun j hj => by have := (HLT.out j hj).1; omega)); have HO4 := Lib.hid hown4; clear hown4 hb54 hg4)
      all_goals
        have HCM2 := Lib.hid (show Cm w (w.heap.size + 2) g5 (now + 1) (writeS (now + 1) L (kk, n, gn)) (w4.setCell ⟨g5, 1, none⟩ (.slice A4 (writeS (now + 1) L (kk, n, gn)).length c4)) from ⟨_, ownsRow_setCell_other HO4.out (Ne.symm (own_ne HO4.out HB54.out)) _, HB54.out.set_ 1 _, HB4.out.setCell (by simp; omega) _⟩)
        have H42 := Lib.hid (H44.out.far (p := ⟨g5, 1, none⟩) (by simp; omega) (.slice A4 (writeS (now + 1) L (kk, n, gn)).length c4))
        have H12 := Lib.hid (H14.out.far (p := ⟨g5, 1, none⟩) (by simp; omega) (.slice A4 (writeS (now + 1) L (kk, n, gn)).length c4))
        generalize w4.setCell ⟨g5, 1, none⟩ (.slice A4 (writeS (now + 1) L (kk, n, gn)).length c4) = w6 at *
        clear z1 z2
        go_wp2
        go_roundw
        case rel => exact ⟨k + 1, by omega, by go_num, by rw [HD.out]; exact HCM2.out, H42.out, H12.out⟩
        case measure => simp [intOf]; omega
    · obtain rfl : k = ws.length := by omega
      rw [List.take_length] at *
      obtain ⟨A', c', rfl, _, _, hS⟩ := hown.sl
      have HDR := Lib.hid (show doR now l ws = if versB (now + 1) (doS (now + 1) l ws) = true then ((now + 1, doS (now + 1) l ws), true) else ((now, l), false) from rfl)
      have HVO := Lib.hid (specVersOk_any A' (doS (now + 1) l ws) c' (now + 1) wr HFT.out (by have := doS_len (now + 1) ws l; omega) hS)
      have y0 : wr.cell? ⟨g5, 0, none⟩ = some (.int .i64 (now + 1)) := hb5.cell 0
      have y1 : wr.cell? ⟨g5, 1, none⟩ = some (.slice A' (doS (now + 1) l ws).length c') := hb5.cell 1
      have HOW := Lib.hid hown
      have HB5 := Lib.hid hb5
      have HBW := Lib.hid hbw
      have HR := Lib.hid hR
      clear hown hb5 hbw hS hR hR2
      generalize doS (now + 1) l ws = L at *
      go_wp2_with fail
      refine HVO.out.mono ?_
      rintro e w5 ⟨rfl, hb5⟩
      have hB5 := HB5.out.kept hb5
      have hB4 := H4.out.kept hb5
      have hB1 := H1.out.kept hb5
      have hbw5 := HBW.out.trans (hb5.mono HBW.out.size)
      have hown5 : OwnV w5 (w.heap.size + 2) (.slice A' L.length c') L := own_kept HOW.out hb5
      clear HB5 H4 H1 HBW HOW y0 y1 hb5 HVO
      cases hq : versB (now + 1) L
      · have HDR2 := Lib.hid (show doR now l ws = ((now, l), false) by rw [HDR.out, if_neg (by rw [hq]; simp)])
        have r0 : w5.cell? ⟨w.heap.size, 0, none⟩ = some (.int .i64 now) := hB1.cell 0
        have r1 : w5.cell? ⟨w.heap.size, 1, none⟩ = some (.slice A l.length c) := hB1.cell 1
        have HC := Lib.hid (l2Copy_any A l c now w5 (by omega) (HR.out.below hbw5))
        have HB := Lib.hid hB4
        have HBW := Lib.hid hbw5
        clear hB4 hB5 hB1 hbw5 hown5
        go_wp2_with fail
        refine HC.out.mono ?_
        rintro e w6 ⟨v, rfl, hown, hb3⟩
        obtain ⟨A6, c6, rfl, _, _, hS⟩ := hown.sl
        have hB3 := HB.out.kept hb3
        have hbw3 := HBW.out.trans (hb3.mono HBW.out.size)
        have hsz5 := HBW.out.size
        have hlt4 := HB.out.lt
        have z0 := hB3.frozen 0
        have z1 := hB3.frozen 1
        have x0 : w6.cell? ⟨w.heap.size + 1, 0, none⟩ = some (.int .i64 0) := hB3.cell 0
        have x1 : w6.cell? ⟨w.heap.size + 1, 1, none⟩ = some (.slice none 0 0) := hB3.cell 1
        have HOW := Lib.hid (own_set (own_set hown (p := ⟨w.heap.size + 1, 0, none⟩) (by simp; omega) (.int .i64 now)) (p := ⟨w.heap.size + 1, 1, none⟩) (by simp; omega) (.slice A6 l.length c6))
        obtain ⟨q0, q1⟩ := hB3.two (.int .i64 now) (.slice A6 l.length c6)
        clear hS hown
        go_wp2
        rw [HDR2.out]
        refine bodyPost_ret (v := .tuple #[.agg #[.int .i64 now, .slice A6 l.length c6], .bool false]) (by simp [results, Tryz.results26, go_sem, q0, q1]) rfl ⟨_, rfl, OwnV.le HOW.out (by omega), (hbw3.setCell (by simp) _).setCell (by simp) _⟩
      · have HDR2 := Lib.hid (show doR now l ws = ((now + 1, L), true) by rw [HDR.out, if_pos hq])
        have r0 : w5.cell? ⟨g5, 0, none⟩ = some (.int .i64 (now + 1)) := hB5.cell 0
        have r1 : w5.cell? ⟨g5, 1, none⟩ = some (.slice A' L.length c') := hB5.cell 1
        have z0 := hB4.frozen 0
        have z1 := hB4.frozen 1
        have x0 : w5.cell? ⟨w.heap.size + 1, 0, none⟩ = some (.int .i64 0) := hB4.cell 0
        have x1 : w5.cell? ⟨w.heap.size + 1, 1, none⟩ = some (.slice none 0 0) := hB4.cell 1
        have HOW := Lib.hid (own_set (own_set hown5 (p := ⟨w.heap.size + 1, 0, none⟩) (by simp) (.int .i64 (now + 1))) (p := ⟨w.heap.size + 1, 1, none⟩) (by simp) (.slice A' L.length c'))
        obtain ⟨q0, q1⟩ := hB4.two (.int .i64 (now + 1)) (.slice A' L.length c')
        clear hown5 hB5 hB4 hB1
        go_wp2
        rw [HDR2.out]
        refine bodyPost_ret (v := .tuple #[.agg #[.int .i64 (now + 1), .slice A' L.length c'], .bool true]) (by simp [results, Tryz.results26, go_sem, q0, q1]) rfl ⟨_, rfl, OwnV.le HOW.out (by omega), (hbw5.setCell (by simp) _).setCell (by simp) _⟩
end Go.Proofs.YtfmhhckkpenldaaGreatDoor
