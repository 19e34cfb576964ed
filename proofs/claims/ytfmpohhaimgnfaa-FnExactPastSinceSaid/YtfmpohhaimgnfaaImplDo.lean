/- The program's VersDo. -/
import Derived.Test.YtfmpohhaimgnfaaCommit
import Derived.Test.YtfmpohhaimgnfaaWrtOk
import Derived.Test.YtfmpohhaimgnfaaVerOk
namespace Go.Proofs.Ytfmpohhaimgnfaa
open Go.RowKit
/-- what doing something answers: the time, the versions, whether it was done -/
noncomputable def doV (now : Int) (l : List Ver) (ws : List Wri) : (Int × List Ver) × Bool :=
  if versB now l = true then (if wrsB 6 ws = true then (if versB (now + 1) (doS (now + 1) l ws) = true then ((now + 1, doS (now + 1) l ws), true) else ((now, l), false)) else ((now, l), false)) else ((0, []), false)
/-- an answer of a store and a truth value, in memory of one's own -/
def DoPost (w : World) (r : (Int × List Ver) × Bool) (e : Ending) (w' : World) : Prop :=
  ∃ v, e = .returned (.tuple #[.agg #[.int .i64 r.1.1, v], .bool r.2]) ∧ OwnV w' w.heap.size v r.1.2 ∧ Below w.heap.size w w'
set_option maxRecDepth 100000 in
set_option maxHeartbeats 2000000 in
theorem implVersDo_any (A A2 : Option Addr) (l : List Ver) (ws : List Wri) (c c2 : Nat) (now : Int) (w : World) (hf : FitsV l) (hn : l.length ≤ 1048576) (hf2 : FitsW ws) (hn2 : ws.length ≤ 1048576) (hR : Sl encVer 4 w A l) (hR2 : Sl encWri 3 w A2 ws) :
    Calls Try.prog 16 #[.agg #[.int .i64 now, .slice A l.length c], .slice A2 ws.length c2] w (DoPost w (doV now l ws)) := by
  have hb0 := ((Below.refl w.heap.size w).alloc (Nat.le_refl _) (.cells #[.int .i64 now, .slice A l.length c] 25)).alloc (by simp) (.cells #[.int .i64 0, .slice none 0 0] 25)
  have hB1 := (Blk.new w 25 #[.int .i64 now, .slice A l.length c]).alloc (.cells #[.int .i64 0, .slice none 0 0] 25)
  have hB2 := Blk.new (w.alloc (.cells #[.int .i64 now, .slice A l.length c] 25)) 25 #[.int .i64 0, .slice none 0 0]
  have hsz : ((w.alloc (.cells #[.int .i64 now, .slice A l.length c] 25)).alloc (.cells #[.int .i64 0, .slice none 0 0] 25)).heap.size = w.heap.size + 2 := by simp
  rw [World.size_alloc] at hB2
  go_enter Try.func16, Try.ntmps16
  go_wp2_with fail
  generalize (w.alloc (.cells #[.int .i64 now, .slice A l.length c] 25)).alloc (.cells #[.int .i64 0, .slice none 0 0] 25) = w0 at *
  refine (implVersOk_any A l c now w0 hf hn (hR.below hb0)).mono ?_
  rintro e w1 ⟨rfl, hb1⟩
  have hbw1 := hb0.trans (hb1.mono (by omega))
  have hB11 := hB1.kept hb1
  have hB21 := hB2.kept hb1
  have hs1 := hb1.size
  clear hB1 hB2 hb0 hb1
  cases hv : versB now l
  · have HR := Lib.hid (show doV now l ws = ((0, []), false) by unfold doV; rw [if_neg (by rw [hv]; simp)])
    have z0 := hB21.frozen 0
    have z1 := hB21.frozen 1
    have x0 : w1.cell? ⟨w.heap.size + 1, 0, none⟩ = some (.int .i64 0) := hB21.cell 0
    have x1 : w1.cell? ⟨w.heap.size + 1, 1, none⟩ = some (.slice none 0 0) := hB21.cell 1
    obtain ⟨q0, q1⟩ := hB21.two (.int .i64 0) (.slice none 0 0)
    go_wp2
    rw [HR.out]
    refine bodyPost_ret (v := .tuple #[.agg #[.int .i64 0, .slice none 0 0], .bool false]) (by simp [results, Try.results16, go_sem, q0, q1]) rfl ⟨_, rfl, ⟨rfl, .inl ⟨rfl, rfl⟩⟩, (hbw1.setCell (by simp) _).setCell (by simp) _⟩
  · obtain ⟨⟨hn0, hn1, hl60⟩, _⟩ := versB_out hv
    have hO := ordd_of (versB_out hv)
    have HV := Lib.hid hv
    have r0 : w1.cell? ⟨w.heap.size, 0, none⟩ = some (.int .i64 now) := hB11.cell 0
    have r1 : w1.cell? ⟨w.heap.size, 1, none⟩ = some (.slice A l.length c) := hB11.cell 1
    have HO := Lib.hid hO
    have HWO := Lib.hid (implWritesOk_any A2 ws c2 w1 hf2 hn2 (hR2.below hbw1))
    clear hO hv
    go_wp2_with fail
    refine HWO.out.mono ?_
    rintro e w2 ⟨rfl, hb2⟩
    have hbw2 := hbw1.trans (hb2.mono hbw1.size)
    have hB12 := hB11.kept hb2
    have hB22 := hB21.kept hb2
    have hs2 := hb2.size
    clear r0 r1 hB11 hB21 hb2 HWO
    have r0 : w2.cell? ⟨w.heap.size, 0, none⟩ = some (.int .i64 now) := hB12.cell 0
    have r1 : w2.cell? ⟨w.heap.size, 1, none⟩ = some (.slice A l.length c) := hB12.cell 1
    cases hw : wrsB 6 ws
    · have HR := Lib.hid (show doV now l ws = ((now, l), false) by unfold doV; rw [if_pos HV.out, if_neg (by rw [hw]; simp)])
      have HC := Lib.hid (clone_any A l c now w2 hn (hR.below hbw2))
      have HB := Lib.hid hB22
      have HBW := Lib.hid hbw2
      clear hB12 hB22 hbw2 hbw1 hR hR2
      go_wp2_with fail
      refine HC.out.mono ?_
      rintro e w3 ⟨v, rfl, hown, hb3⟩
      obtain ⟨A', c', rfl, _, _, hS⟩ := hown.sl
      have hB3 := HB.out.kept hb3
      have hbw3 := HBW.out.trans (hb3.mono HBW.out.size)
      have z0 := hB3.frozen 0
      have z1 := hB3.frozen 1
      have x0 : w3.cell? ⟨w.heap.size + 1, 0, none⟩ = some (.int .i64 0) := hB3.cell 0
      have x1 : w3.cell? ⟨w.heap.size + 1, 1, none⟩ = some (.slice none 0 0) := hB3.cell 1
      have HOW := Lib.hid (own_set (own_set hown (p := ⟨w.heap.size + 1, 0, none⟩) (by simp; omega) (.int .i64 now)) (p := ⟨w.heap.size + 1, 1, none⟩) (by simp; omega) (.slice A' l.length c'))
      obtain ⟨q0, q1⟩ := hB3.two (.int .i64 now) (.slice A' l.length c')
      clear hS hown
      go_wp2
      rw [HR.out]
      refine bodyPost_ret (v := .tuple #[.agg #[.int .i64 now, .slice A' l.length c'], .bool false]) (by simp [results, Try.results16, go_sem, q0, q1]) rfl ⟨_, rfl, OwnV.le HOW.out (by omega), (hbw3.setCell (by simp) _).setCell (by simp) _⟩
    · have hws6 := (wrsB_iff.1 hw).1
      have HWT := Lib.hid hw
      have HC := Lib.hid (commit_any A A2 l ws c c2 now w2 (by omega) (by omega) hn0 (by omega) HO.out (hR.below hbw2) (hR2.below hbw2))
      have HSL := Lib.hid (hR.below hbw2)
      have HB1 := Lib.hid hB12
      have HB := Lib.hid hB22
      have HBW := Lib.hid hbw2
      clear hB12 hB22 hbw2 hbw1 hR hR2 hw
      go_wp2_with fail
      refine HC.out.mono ?_
      rintro e w3 ⟨v, rfl, hown, hb3⟩
      obtain ⟨A', c', rfl, _, _, hS⟩ := hown.sl
      have hs3 := hb3.size
      have HLN := Lib.hid (show (doS (now + 1) l ws).length ≤ 1048576 by have := doS_len (now + 1) ws l; omega)
      have HFT := Lib.hid (show FitsV (doS (now + 1) l ws) from ⟨Nat.le_trans HLN.out (by unfold maxLen; omega), doS_fits ws l hf.2 hf2.2⟩)
      have HDV := Lib.hid (show doV now l ws = if versB (now + 1) (doS (now + 1) l ws) = true then ((now + 1, doS (now + 1) l ws), true) else ((now, l), false) by unfold doV; rw [if_pos HV.out, if_pos HWT.out])
      have hb4 := (HBW.out.trans (hb3.mono HBW.out.size)).alloc (by omega) (.cells #[.int .i64 (now + 1), .slice A' (doS (now + 1) l ws).length c'] 25)
      have hbn := (Below.refl w3.heap.size w3).alloc (Nat.le_refl _) (.cells #[.int .i64 (now + 1), .slice A' (doS (now + 1) l ws).length c'] 25)
      have hN := Blk.new w3 25 #[.int .i64 (now + 1), .slice A' (doS (now + 1) l ws).length c']
      have HVO := Lib.hid (implVersOk_any A' (doS (now + 1) l ws) c' (now + 1) (w3.alloc (.cells #[.int .i64 (now + 1), .slice A' (doS (now + 1) l ws).length c'] 25)) HFT.out HLN.out (hS.below hbn))
      have HB1n := Lib.hid ((HB1.out.kept hb3).kept hbn)
      have HBn := Lib.hid ((HB.out.kept hb3).kept hbn)
      have HSn := Lib.hid ((HSL.out.below hb3).below hbn)
      have HOWn := Lib.hid (show OwnV (w3.alloc (.cells #[.int .i64 (now + 1), .slice A' (doS (now + 1) l ws).length c'] 25)) w2.heap.size (.slice A' (doS (now + 1) l ws).length c') (doS (now + 1) l ws) from own_kept hown hbn)
      have HB4 := Lib.hid hb4
      have HN := Lib.hid hN
      clear hS hown hb4 hbn hN hb3 HC
      generalize doS (now + 1) l ws = L at *
      go_wp2_with fail
      refine HVO.out.mono ?_
      rintro e w5 ⟨rfl, hb5⟩
      have hs5 := hb5.size
      rw [World.size_alloc] at hs5
      have hB15 := HB1n.out.kept hb5
      have hB5 := HBn.out.kept hb5
      have hbw5 := HB4.out.trans (hb5.mono HB4.out.size)
      have hN5 := HN.out.kept hb5
      have hS5 := HSn.out.below hb5
      have hown5 : OwnV w5 w2.heap.size (.slice A' L.length c') L := own_kept HOWn.out hb5
      clear HB1n HBn HB4 HN HSn HOWn HVO hb5
      cases hq : versB (now + 1) L
      · have HR := Lib.hid (show doV now l ws = ((now, l), false) by rw [HDV.out, if_neg (by rw [hq]; simp)])
        have r0 : w5.cell? ⟨w.heap.size, 0, none⟩ = some (.int .i64 now) := hB15.cell 0
        have r1 : w5.cell? ⟨w.heap.size, 1, none⟩ = some (.slice A l.length c) := hB15.cell 1
        have HC := Lib.hid (clone_any A l c now w5 hn hS5)
        have HB := Lib.hid hB5
        have HBW := Lib.hid hbw5
        clear hB15 hB5 hbw5 hN5 hown5 hS5
        go_wp2_with fail
        refine HC.out.mono ?_
        rintro e w6 ⟨v, rfl, hown, hb3⟩
        obtain ⟨A6, c6, rfl, _, _, hS⟩ := hown.sl
        have hB3 := HB.out.kept hb3
        have hbw3 := HBW.out.trans (hb3.mono HBW.out.size)
        have z0 := hB3.frozen 0
        have z1 := hB3.frozen 1
        have x0 : w6.cell? ⟨w.heap.size + 1, 0, none⟩ = some (.int .i64 0) := hB3.cell 0
        have x1 : w6.cell? ⟨w.heap.size + 1, 1, none⟩ = some (.slice none 0 0) := hB3.cell 1
        have HOW := Lib.hid (own_set (own_set hown (p := ⟨w.heap.size + 1, 0, none⟩) (by simp; omega) (.int .i64 now)) (p := ⟨w.heap.size + 1, 1, none⟩) (by simp; omega) (.slice A6 l.length c6))
        obtain ⟨q0, q1⟩ := hB3.two (.int .i64 now) (.slice A6 l.length c6)
        clear hS hown
        go_wp2
        rw [HR.out]
        refine bodyPost_ret (v := .tuple #[.agg #[.int .i64 now, .slice A6 l.length c6], .bool false]) (by simp [results, Try.results16, go_sem, q0, q1]) rfl ⟨_, rfl, OwnV.le HOW.out (by omega), (hbw3.setCell (by simp) _).setCell (by simp) _⟩
      · have HR := Lib.hid (show doV now l ws = ((now + 1, L), true) by rw [HDV.out, if_pos hq])
        have r0 : w5.cell? ⟨w3.heap.size, 0, none⟩ = some (.int .i64 (now + 1)) := hN5.cell 0
        have r1 : w5.cell? ⟨w3.heap.size, 1, none⟩ = some (.slice A' L.length c') := hN5.cell 1
        have z0 := hB5.frozen 0
        have z1 := hB5.frozen 1
        have x0 : w5.cell? ⟨w.heap.size + 1, 0, none⟩ = some (.int .i64 0) := hB5.cell 0
        have x1 : w5.cell? ⟨w.heap.size + 1, 1, none⟩ = some (.slice none 0 0) := hB5.cell 1
        have HOW := Lib.hid (own_set (own_set hown5 (p := ⟨w.heap.size + 1, 0, none⟩) (by simp; omega) (.int .i64 (now + 1))) (p := ⟨w.heap.size + 1, 1, none⟩) (by simp; omega) (.slice A' L.length c'))
        obtain ⟨q0, q1⟩ := hB5.two (.int .i64 (now + 1)) (.slice A' L.length c')
        clear hS5 hown5 hB15 hB5 hN5
        go_wp2
        rw [HR.out]
        refine bodyPost_ret (v := .tuple #[.agg #[.int .i64 (now + 1), .slice A' L.length c'], .bool true]) (by simp [results, Try.results16, go_sem, q0, q1]) rfl ⟨_, rfl, OwnV.le HOW.out (by omega), (hbw5.setCell (by simp) _).setCell (by simp) _⟩
end Go.Proofs.Ytfmpohhaimgnfaa
