/- The reference's PastFold. -/
import Derived.Test.YtpjkcmmmpgncmaaFoldP
import Derived.Test.YtpjkcmmmpgncmaaL8R
import Derived.Test.YtpjkcmmmpgncmaaL2Do
import Derived.Deep.RegionWith
namespace Go.Proofs.Ytpjkcmmmpgncmaa
open Go.RowKit
set_option maxRecDepth 100000 in
set_option maxHeartbeats 2000000 in
theorem specPastFold_any (A : Option Addr) (rs : List Wrow) (c : Nat) (w : World) (hf : FitsR rs) (hn : rs.length ≤ 1048576) (hn2 : ∀ r ∈ rs, r.2.2.length ≤ 1048576) (hc : ∀ r ∈ rs, r.2.2.length ≤ r.2.1 ∧ r.2.1 ≤ maxLen) (hR : Sl2 w A rs) :
    Calls Try.prog 30 #[.slice A rs.length c] w (DoPost w (goF 0 [] (cont rs))) := by
  have hb0 := (((Below.refl w.heap.size w).alloc (Nat.le_refl _) (.cells #[.int .i64 0, .slice none 0 0] 32)).alloc (by simp) (.cells #[] 88)).alloc (by simp; omega) (.cells #[.int .i64 0, .slice (some ⟨w.heap.size + 1, 0, none⟩) 0 0] 32)
  have hB2 := ((Blk.new w 32 #[.int .i64 0, .slice none 0 0]).alloc (.cells #[] 88)).alloc (.cells #[.int .i64 0, .slice (some ⟨w.heap.size + 1, 0, none⟩) 0 0] 32)
  have hB3 := (Blk.new (w.alloc (.cells #[.int .i64 0, .slice none 0 0] 32)) 88 #[]).alloc (.cells #[.int .i64 0, .slice (some ⟨w.heap.size + 1, 0, none⟩) 0 0] 32)
  have hB4 := Blk.new ((w.alloc (.cells #[.int .i64 0, .slice none 0 0] 32)).alloc (.cells #[] 88)) 32 #[.int .i64 0, .slice (some ⟨w.heap.size + 1, 0, none⟩) 0 0]
  rw [World.size_alloc, World.size_alloc] at hB4
  rw [World.size_alloc] at hB3
  have ho := (own_of_blk (base := w.heap.size) (n := 0) (k := 4) (xs := []) hB3 (by omega) (Nat.zero_le _) rfl rfl)
  have HST := Lib.hid (show PI w (w.heap.size + 2) rs 0 0 (some ⟨w.heap.size + 1, 0, none⟩) [] 0 (((w.alloc (.cells #[.int .i64 0, .slice none 0 0] 32)).alloc (.cells #[] 88)).alloc (.cells #[.int .i64 0, .slice (some ⟨w.heap.size + 1, 0, none⟩) 0 0] 32)) from ⟨rfl, vers_start, hB4, hB2, ho, hb0, ⟨Nat.zero_le _, fun x h => absurd h (by simp)⟩⟩)
  clear hb0 hB2 hB4 hB3 ho
  have HRA := Lib.hid hR
  have HF := Lib.hid hf
  have HN2 := Lib.hid hn2
  have HCP := Lib.hid hc
  clear hR hf hn2 hc
  go_enter Try.func30, Try.ntmps30
  go_wp2
  generalize ((w.alloc (.cells #[.int .i64 0, .slice none 0 0] 32)).alloc (.cells #[] 88)).alloc (.cells #[.int .i64 0, .slice (some ⟨w.heap.size + 1, 0, none⟩) 0 0] 32) = w0 at *
  go_loopw [5] (fun i wr => ∃ (k : Nat) (now : Int) (l : List Ver) (A' : Option Addr) (c' : Nat), k ≤ rs.length ∧ i = .int .i64 k ∧ Hid (PI w (w.heap.size + 2) rs k now A' l c' wr)) (fun i _ => rs.length - (intOf i).toNat)
  case atStart => exact ⟨0, 0, [], _, 0, by omega, rfl, HST.out⟩
  case round =>
    obtain ⟨k, now, l, A', c', hk, rfl, HI⟩ := hrel
    clear HST
    by_cases hlt : k < rs.length
    · obtain ⟨b, o, rfl, hbl, c0, hS⟩ := (HRA.out.below HI.out.2.2.2.2.2.1).at_ hlt
      have HG := Lib.hid (goK_step HI.out.1 hlt)
      have hx := HF.out.2 rs[k] (by simp)
      have hxl := HN2.out rs[k] (by simp)
      have hxc := HCP.out rs[k] (by simp)
      have hsz := HI.out.2.2.2.2.2.1.size
      generalize rs[k] = x at *
      obtain ⟨Ax, cx, lx⟩ := x
      simp only at c0 hS hx hxl HG hxc
      have HUP := Lib.hid (l8Right_any Ax lx cx wr hx hxl hxc.1 hxc.2 hS)
      have HSX := Lib.hid hS
      have HX := Lib.hid hx
      clear hS hx hxl hxc
      go_wp2_with fail
      refine HUP.out.mono ?_
      rintro e W0 ⟨rfl, hb1⟩
      have HI1 := Lib.hid (HI.out.below hb1)
      have HSX1 := Lib.hid (HSX.out.below hb1)
      have hs1 := hb1.size
      have c0 := (hb1.cell (p := ⟨b, o + k, none⟩) hbl).trans c0
      have hbl : b < W0.heap.size := Nat.lt_of_lt_of_le hbl hb1.size
      clear HUP HI HSX hb1
      cases hw : wrsB 20 lx
      · have HR := Lib.hid (HG.out.trans (goF_row hw))
        clear hw
        have hB := HI1.out.2.2.2.1
        have z0 := hB.frozen 0
        have z1 := hB.frozen 1
        have x0 : W0.cell? ⟨w.heap.size, 0, none⟩ = some (.int .i64 0) := hB.cell 0
        have x1 : W0.cell? ⟨w.heap.size, 1, none⟩ = some (.slice none 0 0) := hB.cell 1
        obtain ⟨q0, q1⟩ := hB.two (.int .i64 0) (.slice none 0 0)
        have hbe := HI1.out.2.2.2.2.2.1
        go_wp2
        rw [HR.out]
        refine bodyPost_ret (v := .tuple #[.agg #[.int .i64 0, .slice none 0 0], .bool false]) (by simp [results, Try.results30, go_sem, q0, q1]) rfl ⟨_, rfl, ⟨rfl, .inl ⟨rfl, rfl⟩⟩, (hbe.setCell (by simp) _).setCell (by simp) _⟩
        
      · obtain ⟨⟨hn0, hn1, hl60⟩, _⟩ := versB_out HI1.out.2.1
        have h20 := (wrsB_iff.1 hw).1
        have HW := Lib.hid hw
        clear hw
        have HBD := Lib.hid (Below.refl W0.heap.size W0).drew
        have HBA := Lib.hid (((Below.refl W0.heap.size W0).alloc (Nat.le_refl _) (.cells #[.int .i64 0, .slice none 0 0] 32)).drew)
        have HBK := Lib.hid ((Blk.new W0 32 #[.int .i64 0, .slice none 0 0]).drew)
        have HC := Lib.hid (fun (W' : World) (hb : Below W0.heap.size W0 W') => l2Do_any A' Ax l lx c' cx now W' (by omega) (by omega) hn0 (by omega) HI1.out.2.2.2.2.2.2 HX.out (HI1.out.below hb).2.2.2.2.1.reads2 (HSX1.out.below hb))
        obtain ⟨hFD, hLD⟩ := fits_do (now := now + 1) (by omega) (by omega) HI1.out.2.2.2.2.2.2 HX.out
        have HFD := Lib.hid hFD
        have HDR := Lib.hid (show doR now l lx = if versB (now + 1) (doS (now + 1) l lx) = true then ((now + 1, doS (now + 1) l lx), true) else ((now, l), false) from rfl)
        have r0 : W0.cell? ⟨w.heap.size + 2, 0, none⟩ = some (.int .i64 now) := HI1.out.2.2.1.cell 0
        have r1 : W0.cell? ⟨w.heap.size + 2, 1, none⟩ = some (.slice A' l.length c') := HI1.out.2.2.1.cell 1
        have hlt4 := HI1.out.2.2.1.lt
        have hki : (k : Int) < (rs.length : Int) := by omega
        clear hFD
        generalize hdo : doS (now + 1) l lx = L at *
        have HDO := Lib.hid hdo
        clear hdo
        cases hq : versB (now + 1) L
        · have HDR2 := HDR.out
          rw [if_neg (by rw [hq]; simp)] at HDR2
          rw [HDR2] at HC
          have HR := Lib.hid (HG.out.trans (goF_bad HW.out (by rw [HDO.out]; exact hq)))
          clear hq HDR HDR2
          go_wp2_with fail
          go_region_with (first
            | (go_at_call 63
               refine (HC.out _ HBA.out).mono ?_
               rintro e w2 ⟨v, rfl, hown2, hb2⟩
               simp only at hown2
               obtain ⟨A2, c2, rfl, _, _, hS2⟩ := hown2.sl
               have hBx := HBK.out.kept hb2
               have z0 := hBx.frozen 0
               have z1 := hBx.frozen 1
               have x0 : w2.cell? ⟨W0.heap.size, 0, none⟩ = some (.int .i64 0) := hBx.cell 0
               have x1 : w2.cell? ⟨W0.heap.size, 1, none⟩ = some (.slice none 0 0) := hBx.cell 1
               have HBs := Lib.hid (((HBA.out.trans (hb2.mono HBA.out.size)).setCell (p := ⟨W0.heap.size, 0, none⟩) (by simp) (.int .i64 (now))).setCell (p := ⟨W0.heap.size, 1, none⟩) (by simp) (.slice A2 l.length c2))
               have HOs := Lib.hid (OwnV.le (B2 := W0.heap.size) (own_set (own_set hown2 (p := ⟨W0.heap.size, 0, none⟩) (by show W0.heap.size < (W0.alloc _).heap.size; simp) (.int .i64 (now))) (p := ⟨W0.heap.size, 1, none⟩) (by show W0.heap.size < (W0.alloc _).heap.size; simp) (.slice A2 l.length c2)) HBA.out.size)
               have HEs := Lib.hid (show Blk ((w2.setCell ⟨W0.heap.size, 0, none⟩ (.int .i64 (now))).setCell ⟨W0.heap.size, 1, none⟩ (.slice A2 l.length c2)) W0.heap.size 32 #[.int .i64 (now), .slice A2 l.length c2] from (hBx.set_ 0 _).set_ 1 _)
               obtain ⟨W4, hSW⟩ : ∃ W4, W4 = (w2.setCell ⟨W0.heap.size, 0, none⟩ (.int .i64 (now))).setCell ⟨W0.heap.size, 1, none⟩ (.slice A2 l.length c2) := ⟨_, rfl⟩
               rw [← hSW] at HBs HOs HEs
               have HSW := Lib.hid hSW
               clear hS2 hown2 hb2 hBx hSW)
            | (go_at_call 63
               refine (HC.out _ HBD.out).mono ?_
               rintro e w2 ⟨v, rfl, hown2, hb2⟩
               simp only at hown2
               obtain ⟨A2, c2, rfl, _, _, hS2⟩ := hown2.sl
               have hbn := (Below.refl w2.heap.size w2).alloc (Nat.le_refl _) (.cells #[.int .i64 (now), .slice A2 l.length c2] 32)
               have HBs := Lib.hid (bthen (HBD.out.trans (hb2.mono HBD.out.size)) hbn)
               have HOs : Hid (OwnV (w2.alloc (.cells #[.int .i64 (now), .slice A2 l.length c2] 32)) W0.heap.size (.slice A2 l.length c2) l) := Lib.hid (own_kept hown2 hbn)
               have HEs := Lib.hid (Blk.new w2 32 #[.int .i64 (now), .slice A2 l.length c2])
               obtain ⟨W4, hSW⟩ : ∃ W4, W4 = w2.alloc (.cells #[.int .i64 (now), .slice A2 l.length c2] 32) := ⟨_, rfl⟩
               rw [← hSW] at HBs HOs HEs
               have HSW := Lib.hid hSW
               clear hS2 hown2 hb2 hbn hSW))
          all_goals
            have HI4 := Lib.hid (HI1.out.below HBs.out)
            rw [← HSW.out]
            clear HSW
            try clear z0 z1 x0 x1
            have hB := HI4.out.2.2.2.1
            have z0 := hB.frozen 0
            have z1 := hB.frozen 1
            have x0 : W4.cell? ⟨w.heap.size, 0, none⟩ = some (.int .i64 0) := hB.cell 0
            have x1 : W4.cell? ⟨w.heap.size, 1, none⟩ = some (.slice none 0 0) := hB.cell 1
            obtain ⟨q0, q1⟩ := hB.two (.int .i64 0) (.slice none 0 0)
            have hbe := HI4.out.2.2.2.2.2.1
            go_wp2
            rw [HR.out]
            refine bodyPost_ret (v := .tuple #[.agg #[.int .i64 0, .slice none 0 0], .bool false]) (by simp [results, Try.results30, go_sem, q0, q1]) rfl ⟨_, rfl, ⟨rfl, .inl ⟨rfl, rfl⟩⟩, (hbe.setCell (by simp) _).setCell (by simp) _⟩
            
        · have HDR2 := HDR.out
          rw [if_pos hq] at HDR2
          rw [HDR2] at HC
          have HGO := Lib.hid (show goF 0 [] (cont rs) = goF (now + 1) L ((cont rs).drop (k + 1)) from HG.out.trans ((goF_on HW.out (by rw [HDO.out]; exact hq)).trans (by rw [HDO.out])))
          have HQ := Lib.hid hq
          clear hq HDR HDR2
          go_wp2_with fail
          go_region_with (first
            | (go_at_call 63
               refine (HC.out _ HBA.out).mono ?_
               rintro e w2 ⟨v, rfl, hown2, hb2⟩
               simp only at hown2
               obtain ⟨A2, c2, rfl, _, _, hS2⟩ := hown2.sl
               have hBx := HBK.out.kept hb2
               have z0 := hBx.frozen 0
               have z1 := hBx.frozen 1
               have x0 : w2.cell? ⟨W0.heap.size, 0, none⟩ = some (.int .i64 0) := hBx.cell 0
               have x1 : w2.cell? ⟨W0.heap.size, 1, none⟩ = some (.slice none 0 0) := hBx.cell 1
               have HBs := Lib.hid (((HBA.out.trans (hb2.mono HBA.out.size)).setCell (p := ⟨W0.heap.size, 0, none⟩) (by simp) (.int .i64 (now + 1))).setCell (p := ⟨W0.heap.size, 1, none⟩) (by simp) (.slice A2 L.length c2))
               have HOs := Lib.hid (OwnV.le (B2 := W0.heap.size) (own_set (own_set hown2 (p := ⟨W0.heap.size, 0, none⟩) (by show W0.heap.size < (W0.alloc _).heap.size; simp) (.int .i64 (now + 1))) (p := ⟨W0.heap.size, 1, none⟩) (by show W0.heap.size < (W0.alloc _).heap.size; simp) (.slice A2 L.length c2)) HBA.out.size)
               have HEs := Lib.hid (show Blk ((w2.setCell ⟨W0.heap.size, 0, none⟩ (.int .i64 (now + 1))).setCell ⟨W0.heap.size, 1, none⟩ (.slice A2 L.length c2)) W0.heap.size 32 #[.int .i64 (now + 1), .slice A2 L.length c2] from (hBx.set_ 0 _).set_ 1 _)
               obtain ⟨W4, hSW⟩ : ∃ W4, W4 = (w2.setCell ⟨W0.heap.size, 0, none⟩ (.int .i64 (now + 1))).setCell ⟨W0.heap.size, 1, none⟩ (.slice A2 L.length c2) := ⟨_, rfl⟩
               rw [← hSW] at HBs HOs HEs
               have HSW := Lib.hid hSW
               clear hS2 hown2 hb2 hBx hSW)
            | (go_at_call 63
               refine (HC.out _ HBD.out).mono ?_
               rintro e w2 ⟨v, rfl, hown2, hb2⟩
               simp only at hown2
               obtain ⟨A2, c2, rfl, _, _, hS2⟩ := hown2.sl
               have hbn := (Below.refl w2.heap.size w2).alloc (Nat.le_refl _) (.cells #[.int .i64 (now + 1), .slice A2 L.length c2] 32)
               have HBs := Lib.hid (bthen (HBD.out.trans (hb2.mono HBD.out.size)) hbn)
               have HOs : Hid (OwnV (w2.alloc (.cells #[.int .i64 (now + 1), .slice A2 L.length c2] 32)) W0.heap.size (.slice A2 L.length c2) L) := Lib.hid (own_kept hown2 hbn)
               have HEs := Lib.hid (Blk.new w2 32 #[.int .i64 (now + 1), .slice A2 L.length c2])
               obtain ⟨W4, hSW⟩ : ∃ W4, W4 = w2.alloc (.cells #[.int .i64 (now + 1), .slice A2 L.length c2] 32) := ⟨_, rfl⟩
               rw [← hSW] at HBs HOs HEs
               have HSW := Lib.hid hSW
               clear hS2 hown2 hb2 hbn hSW))
          all_goals
            have HI4 := Lib.hid (HI1.out.below HBs.out)
            have hlt2 : w.heap.size + 2 < W0.heap.size := hlt4
            rw [← HSW.out]
            clear HSW
            try clear z0 z1 x0 x1
            have hown4 := HOs.out
            first
              | (have e0 : W4.cell? ⟨w2.heap.size, 0, none⟩ = some (.int .i64 (now + 1)) := HEs.out.cell 0
                 have e1 : W4.cell? ⟨w2.heap.size, 1, none⟩ = some (.slice A2 L.length c2) := HEs.out.cell 1)
              | (have e0 : W4.cell? ⟨W0.heap.size, 0, none⟩ = some (.int .i64 (now + 1)) := HEs.out.cell 0
                 have e1 : W4.cell? ⟨W0.heap.size, 1, none⟩ = some (.slice A2 L.length c2) := HEs.out.cell 1)
            clear r0 r1
            have hB4 := HI4.out.2.2.1
            have z0 := hB4.frozen 0
            have z1 := hB4.frozen 1
            have x0 : W4.cell? ⟨w.heap.size + 2, 0, none⟩ = some (.int .i64 now) := hB4.cell 0
            have x1 : W4.cell? ⟨w.heap.size + 2, 1, none⟩ = some (.slice A' l.length c') := hB4.cell 1
            have hB43 : Blk ((W4.setCell ⟨w.heap.size + 2, 0, none⟩ (.int .i64 (now + 1))).setCell ⟨w.heap.size + 2, 1, none⟩ (.slice A2 L.length c2)) (w.heap.size + 2) 32 #[.int .i64 (now + 1), .slice A2 L.length c2] := (hB4.set_ 0 _).set_ 1 _
            have hB23 := (HI4.out.2.2.2.1.far (p := ⟨w.heap.size + 2, 0, none⟩) (by simp) (.int .i64 (now + 1))).far (p := ⟨w.heap.size + 2, 1, none⟩) (by simp) (.slice A2 L.length c2)
            have hown3 := own_set (own_set hown4 (p := ⟨w.heap.size + 2, 0, none⟩) hlt4 (.int .i64 (now + 1))) (p := ⟨w.heap.size + 2, 1, none⟩) hlt4 (.slice A2 L.length c2)
            have hbe3 := ((HI4.out.2.2.2.2.2.1).setCell (p := ⟨w.heap.size + 2, 0, none⟩) (by simp) (.int .i64 (now + 1))).setCell (p := ⟨w.heap.size + 2, 1, none⟩) (by simp) (.slice A2 L.length c2)
            have HPI := Lib.hid (show PI w (w.heap.size + 2) rs (k + 1) (now + 1) A2 L c2 ((W4.setCell ⟨w.heap.size + 2, 0, none⟩ (.int .i64 (now + 1))).setCell ⟨w.heap.size + 2, 1, none⟩ (.slice A2 L.length c2)) from ⟨HGO.out, HQ.out, hB43, hB23, OwnV.le hown3 (by show w.heap.size ≤ W0.heap.size; omega), hbe3, HFD.out⟩)
            clear hB4 hB43 hB23 hown3 hown4 hbe3
            go_wp2
            go_roundw
            case rel => exact ⟨k + 1, now + 1, L, A2, c2, by omega, by go_num, HPI.out⟩
            case measure => simp [intOf]; omega
    · obtain rfl : k = rs.length := by omega
      have HR := Lib.hid (goK_end HI.out.1)
      obtain ⟨⟨hn0, hn1, hl60⟩, _⟩ := versB_out HI.out.2.1
      have r0 : wr.cell? ⟨w.heap.size + 2, 0, none⟩ = some (.int .i64 now) := HI.out.2.2.1.cell 0
      have r1 : wr.cell? ⟨w.heap.size + 2, 1, none⟩ = some (.slice A' l.length c') := HI.out.2.2.1.cell 1
      have HC := Lib.hid (l2Copy_any A' l c' now wr (by omega) HI.out.2.2.2.2.1.reads2)
      have hsz := HI.out.2.2.2.2.2.1.size
      have hlt2 := HI.out.2.2.2.1.lt
      go_wp2_with fail
      refine HC.out.mono ?_
      rintro e w3 ⟨v, rfl, hown, hb3⟩
      obtain ⟨A2, c2, rfl, _, _, hS⟩ := hown.sl
      have hB3 := HI.out.2.2.2.1.kept hb3
      have hbw3 := bthen HI.out.2.2.2.2.2.1 hb3
      have z0 := hB3.frozen 0
      have z1 := hB3.frozen 1
      have x0 : w3.cell? ⟨w.heap.size, 0, none⟩ = some (.int .i64 0) := hB3.cell 0
      have x1 : w3.cell? ⟨w.heap.size, 1, none⟩ = some (.slice none 0 0) := hB3.cell 1
      have HOW := Lib.hid (own_set (own_set hown (p := ⟨w.heap.size, 0, none⟩) hlt2 (.int .i64 now)) (p := ⟨w.heap.size, 1, none⟩) hlt2 (.slice A2 l.length c2))
      obtain ⟨q0, q1⟩ := hB3.two (.int .i64 now) (.slice A2 l.length c2)
      clear hS hown r0 r1
      go_wp2
      rw [HR.out]
      refine bodyPost_ret (v := .tuple #[.agg #[.int .i64 now, .slice A2 l.length c2], .bool true]) (by simp [results, Try.results30, go_sem, q0, q1]) rfl ⟨_, rfl, OwnV.le HOW.out hsz, (hbw3.setCell (by simp) _).setCell (by simp) _⟩
end Go.Proofs.Ytpjkcmmmpgncmaa
