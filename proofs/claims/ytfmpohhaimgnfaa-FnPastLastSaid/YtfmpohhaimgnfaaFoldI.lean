/- The program's PastFold. -/
import Derived.Test.YtfmpohhaimgnfaaFoldP
namespace Go.Proofs.Ytfmpohhaimgnfaa
open Go.RowKit
set_option maxRecDepth 100000 in
set_option maxHeartbeats 2000000 in
theorem implPastFold_any (A : Option Addr) (rs : List Wrow) (c : Nat) (w : World) (hf : FitsR rs) (hn : rs.length ≤ 1048576) (hn2 : ∀ r ∈ rs, r.2.2.length ≤ 1048576) (hR : Sl2 w A rs) :
    Calls Try.prog 23 #[.slice A rs.length c] w (DoPost w (goF 0 [] (cont rs))) := by
  have hb0 := ((Below.refl w.heap.size w).alloc (Nat.le_refl _) (.cells #[.int .i64 0, .slice none 0 0] 25)).alloc (by simp) (.cells #[.int .i64 0, .slice none 0 0] 25)
  have hB2 := (Blk.new w 25 #[.int .i64 0, .slice none 0 0]).alloc (.cells #[.int .i64 0, .slice none 0 0] 25)
  have hB4 := Blk.new (w.alloc (.cells #[.int .i64 0, .slice none 0 0] 25)) 25 #[.int .i64 0, .slice none 0 0]
  rw [World.size_alloc] at hB4
  have HST := Lib.hid (show ∃ A c, PI w (w.heap.size + 1) rs 0 0 A [] c ((w.alloc (.cells #[.int .i64 0, .slice none 0 0] 25)).alloc (.cells #[.int .i64 0, .slice none 0 0] 25)) from ⟨none, 0, rfl, vers_start, hB4, hB2, ⟨rfl, .inl ⟨rfl, rfl⟩⟩, hb0, ⟨Nat.zero_le _, fun x h => absurd h (by simp)⟩⟩)
  clear hb0 hB2 hB4
  have HRA := Lib.hid hR
  have HF := Lib.hid hf
  have HN2 := Lib.hid hn2
  clear hR hf hn2
  go_enter Try.func23, Try.ntmps23
  go_wp2
  generalize (w.alloc (.cells #[.int .i64 0, .slice none 0 0] 25)).alloc (.cells #[.int .i64 0, .slice none 0 0] 25) = w0 at *
  go_loopw [9] (fun i wr => ∃ (k : Nat) (now : Int) (l : List Ver) (A' : Option Addr) (c' : Nat), k ≤ rs.length ∧ i = .int .i64 k ∧ Hid (PI w (w.heap.size + 1) rs k now A' l c' wr)) (fun i _ => rs.length - (intOf i).toNat)
  case atStart =>
    obtain ⟨A', c', h⟩ := HST.out
    exact ⟨0, 0, [], A', c', by omega, rfl, h⟩
  case round =>
    obtain ⟨k, now, l, A', c', hk, rfl, HI⟩ := hrel
    clear HST
    by_cases hlt : k < rs.length
    · obtain ⟨b, o, rfl, hbl, c0, hS⟩ := (HRA.out.below HI.out.2.2.2.2.2.1).at_ hlt
      have HG := Lib.hid (goK_step HI.out.1 hlt)
      have hx := HF.out.2 rs[k] (by simp)
      have hxl := HN2.out rs[k] (by simp)
      have hsz := HI.out.2.2.2.2.2.1.size
      generalize rs[k] = x at *
      obtain ⟨Ax, cx, lx⟩ := x
      simp only at c0 hS hx hxl HG
      have HUP := Lib.hid (upTo_any Ax lx cx 20 wr hx hxl hS)
      have HSX := Lib.hid hS
      have HX := Lib.hid hx
      clear hS hx hxl
      go_wp2_with fail
      refine HUP.out.mono ?_
      rintro e W0 ⟨rfl, hb1⟩
      have HI1 := Lib.hid (HI.out.below hb1)
      have HSX1 := Lib.hid (HSX.out.below hb1)
      have hs1 := hb1.size
      clear HUP HI HSX hb1 c0
      cases hw : wrsB 20 lx
      · have HR := Lib.hid (HG.out.trans (goF_row hw))
        clear hw
        have hB := HI1.out.2.2.2.1
        have z0 := hB.frozen 0
        have z1 := hB.frozen 1
        have x0 : W0.cell? ⟨w.heap.size, 0, none⟩ = some (.int .i64 0) := hB.cell 0
        have x1 : W0.cell? ⟨w.heap.size, 1, none⟩ = some (.slice none 0 0) := hB.cell 1
        obtain ⟨q0, q1⟩ := hB.two (.int .i64 0) (.slice none 0 0)
        have hbe := HI1.out.2.2.2.2.2.1
        go_wp2
        rw [HR.out]
        refine bodyPost_ret (v := .tuple #[.agg #[.int .i64 0, .slice none 0 0], .bool false]) (by simp [results, Try.results23, go_sem, q0, q1]) rfl ⟨_, rfl, ⟨rfl, .inl ⟨rfl, rfl⟩⟩, (hbe.setCell (by simp) _).setCell (by simp) _⟩
        
      · obtain ⟨⟨hn0, hn1, hl60⟩, _⟩ := versB_out HI1.out.2.1
        have h20 := (wrsB_iff.1 hw).1
        have HW := Lib.hid hw
        clear hw
        have HC := Lib.hid (commit_any A' Ax l lx c' cx now W0 (by omega) (by omega) hn0 (by omega) (ordd_of (versB_out HI1.out.2.1)) HI1.out.2.2.2.2.1.reads2 HSX1.out)
        obtain ⟨hFD, hLD⟩ := fits_do (now := now + 1) (by omega) (by omega) HI1.out.2.2.2.2.2.2 HX.out
        have HFD := Lib.hid hFD
        have r0 : W0.cell? ⟨w.heap.size + 1, 0, none⟩ = some (.int .i64 now) := HI1.out.2.2.1.cell 0
        have r1 : W0.cell? ⟨w.heap.size + 1, 1, none⟩ = some (.slice A' l.length c') := HI1.out.2.2.1.cell 1
        clear hFD
        generalize hdo : doS (now + 1) l lx = L at *
        have HDO := Lib.hid hdo
        clear hdo
        have hlt4 := HI1.out.2.2.1.lt
        go_wp2_with fail
        refine HC.out.mono ?_
        rintro e w2 ⟨v, rfl, hown2, hb2⟩
        obtain ⟨A2, c2, rfl, _, _, hS2⟩ := hown2.sl
        clear hS2 r0 r1 HC
        have hB4 := HI1.out.2.2.1.kept hb2
        have z0 := hB4.frozen 0
        have z1 := hB4.frozen 1
        have x0 : w2.cell? ⟨w.heap.size + 1, 0, none⟩ = some (.int .i64 now) := hB4.cell 0
        have x1 : w2.cell? ⟨w.heap.size + 1, 1, none⟩ = some (.slice A' l.length c') := hB4.cell 1
        obtain ⟨q0, q1⟩ := hB4.two (.int .i64 (now + 1)) (.slice A2 L.length c2)
        have hB43 : Blk ((w2.setCell ⟨w.heap.size + 1, 0, none⟩ (.int .i64 (now + 1))).setCell ⟨w.heap.size + 1, 1, none⟩ (.slice A2 L.length c2)) (w.heap.size + 1) 25 #[.int .i64 (now + 1), .slice A2 L.length c2] := (hB4.set_ 0 _).set_ 1 _
        have hB23 := (((HI1.out.2.2.2.1).kept hb2).far (p := ⟨w.heap.size + 1, 0, none⟩) (by simp) (.int .i64 (now + 1))).far (p := ⟨w.heap.size + 1, 1, none⟩) (by simp) (.slice A2 L.length c2)
        have hown3 := own_set (own_set hown2 (p := ⟨w.heap.size + 1, 0, none⟩) (by simp; omega) (.int .i64 (now + 1))) (p := ⟨w.heap.size + 1, 1, none⟩) (by simp; omega) (.slice A2 L.length c2)
        have hbe3 := ((bthen HI1.out.2.2.2.2.2.1 hb2).setCell (p := ⟨w.heap.size + 1, 0, none⟩) (by simp) (.int .i64 (now + 1))).setCell (p := ⟨w.heap.size + 1, 1, none⟩) (by simp) (.slice A2 L.length c2)
        have HVO := Lib.hid (implVersOk_any A2 L c2 (now + 1) _ HFD.out (by omega) (OwnV.reads2 hown3))
        have HB43 := Lib.hid hB43
        have HB23 := Lib.hid hB23
        have HOW3 := Lib.hid hown3
        have HBE3 := Lib.hid hbe3
        clear hB43 hB23 hown3 hbe3 hown2 hb2 hB4
        go_wp2_with fail
        generalize (w2.setCell ⟨w.heap.size + 1, 0, none⟩ (.int .i64 (now + 1))).setCell ⟨w.heap.size + 1, 1, none⟩ (.slice A2 L.length c2) = w3 at *
        refine HVO.out.mono ?_
        rintro e W0 ⟨rfl, hb4⟩
        have hB2 := HB23.out.kept hb4
        have hB4 := HB43.out.kept hb4
        have hown4 := own_kept HOW3.out hb4
        have hbe := bthen HBE3.out hb4
        clear HVO HB43 HB23 HOW3 HBE3 hb4 z0 z1 x0 x1 q0 q1
        cases hq : versB (now + 1) L
        · have HR := Lib.hid (HG.out.trans (goF_bad HW.out (by rw [HDO.out]; exact hq)))
          clear hq hB4 hown4
          have z0 := hB2.frozen 0
          have z1 := hB2.frozen 1
          have x0 : W0.cell? ⟨w.heap.size, 0, none⟩ = some (.int .i64 0) := hB2.cell 0
          have x1 : W0.cell? ⟨w.heap.size, 1, none⟩ = some (.slice none 0 0) := hB2.cell 1
          obtain ⟨q0, q1⟩ := hB2.two (.int .i64 0) (.slice none 0 0)
          have hbe := hbe
          go_wp2
          rw [HR.out]
          refine bodyPost_ret (v := .tuple #[.agg #[.int .i64 0, .slice none 0 0], .bool false]) (by simp [results, Try.results23, go_sem, q0, q1]) rfl ⟨_, rfl, ⟨rfl, .inl ⟨rfl, rfl⟩⟩, (hbe.setCell (by simp) _).setCell (by simp) _⟩
          
        · have HPI := Lib.hid (show PI w (w.heap.size + 1) rs (k + 1) (now + 1) A2 L c2 W0 from ⟨HG.out.trans ((goF_on HW.out (by rw [HDO.out]; exact hq)).trans (by rw [HDO.out])), hq, hB4, hB2, OwnV.le hown4 (by omega), hbe, HFD.out⟩)
          clear hq hB4 hB2 hown4 hbe
          go_wp2
          go_roundw
          case rel => exact ⟨k + 1, now + 1, L, A2, c2, by omega, by go_num, HPI.out⟩
          case measure => simp [intOf]; omega
    · obtain rfl : k = rs.length := by omega
      have HR := Lib.hid (goK_end HI.out.1)
      have hB2 := HI.out.2.2.2.1
      have z0 := hB2.frozen 0
      have z1 := hB2.frozen 1
      have x0 : wr.cell? ⟨w.heap.size, 0, none⟩ = some (.int .i64 0) := hB2.cell 0
      have x1 : wr.cell? ⟨w.heap.size, 1, none⟩ = some (.slice none 0 0) := hB2.cell 1
      have r0 : wr.cell? ⟨w.heap.size + 1, 0, none⟩ = some (.int .i64 now) := HI.out.2.2.1.cell 0
      have r1 : wr.cell? ⟨w.heap.size + 1, 1, none⟩ = some (.slice A' l.length c') := HI.out.2.2.1.cell 1
      obtain ⟨q0, q1⟩ := hB2.two (.int .i64 now) (.slice A' l.length c')
      have HOW := Lib.hid (own_setV HI.out.2.2.2.2.1 hB2 (.int .i64 now) (.slice A' l.length c'))
      have hbe := HI.out.2.2.2.2.2.1
      clear hB2
      go_wp2
      rw [HR.out]
      refine bodyPost_ret (v := .tuple #[.agg #[.int .i64 now, .slice A' l.length c'], .bool true]) (by simp [results, Try.results23, go_sem, q0, q1]) rfl ⟨_, rfl, HOW.out, (hbe.setCell (by simp) _).setCell (by simp) _⟩
end Go.Proofs.Ytfmpohhaimgnfaa
