import Derived.Deep.RegionWith
import Derived.Test.YtfmhhckkpenldaaGreatDoorM11
import Derived.Test.YtfmhhckkpenldaaGreatDoorSTrim
import Derived.Test.YtfmhhckkpenldaaGreatDoorM07
import Derived.Test.YtfmhhckkpenldaaGreatDoorVerB
/- The reference's l2Some: a store is drawn. -/
namespace Go.Proofs.YtfmhhckkpenldaaGreatDoor
open Go.RowKit
theorem doR_okS {now : Int} {l : List Ver} {ws : List Wri} (h : versB now l = true) (hf : FitsV l) (hf2 : FitsW ws) (hws : ws.length ≤ 400) : versB (doR now l ws).1.1 (doR now l ws).1.2 = true ∧ FitsV (doR now l ws).1.2 := by
  have hl := (versB_out h).1.2.2
  unfold doR
  split
  · rename_i h2
    exact ⟨h2, (fits_do (now := now + 1) (by omega) hws hf hf2).1⟩
  · exact ⟨h, hf⟩
theorem atL_fits {l : List Ver} {t : Int} (hf : FitsV l) : ∀ x ∈ atL l t, x.1.size ≤ maxLen := by
  intro x hx
  unfold atL at hx
  obtain ⟨y, hy, rfl⟩ := List.mem_map.1 hx
  exact hf.2 y (List.mem_filter.1 hy).1
/-- what stands while a store is drawn -/
def SM (w0 w : World) (A : Option Addr) (bs : List UInt8) (c g : Nat) (now : Int) (l : List Ver) (A5 : Option Addr) (c5 q : Nat) (W : World) : Prop :=
  versB now l = true ∧ FitsV l ∧ Blk W (w.heap.size + 2) 36 #[.int .i64 now, .slice A5 l.length c5] ∧ Blk W w.heap.size 36 #[.int .i64 0, .slice none 0 0] ∧ OwnV W w.heap.size (.slice A5 l.length c5) l ∧ Rd w0 W A bs c g q ∧ w.grownBy W (some g)
theorem SM.below {w0 w : World} {A : Option Addr} {bs : List UInt8} {c g : Nat} {now : Int} {l : List Ver} {A5 : Option Addr} {c5 q : Nat} {W W' : World} (h : SM w0 w A bs c g now l A5 c5 q W) (hb : Below W.heap.size W W') : SM w0 w A bs c g now l A5 c5 q W' := by
  obtain ⟨h1, h2, h3, h4, h5, h6, h7⟩ := h
  exact ⟨h1, h2, h3.kept hb, h4.kept hb, own_kept h5 hb, h6.below hb, gr_trans h7 (gr_below hb)⟩
theorem SM.draw {w0 w : World} {A : Option Addr} {bs : List UInt8} {c g : Nat} {now : Int} {l : List Ver} {A5 : Option Addr} {c5 q q' : Nat} {W W' : World} (h : SM w0 w A bs c g now l A5 c5 q W) (hR : Rd w0 W' A bs c g q') (hg : W.grownBy W' (some g)) (hgl : g < w.heap.size) : SM w0 w A bs c g now l A5 c5 q' W' := by
  obtain ⟨h1, h2, h3, h4, h5, h6, h7⟩ := h
  exact ⟨h1, h2, h3.grown hg (by simp; omega), h4.grown hg (by simp; omega), own_gr h5 hg hgl, hR, gr_trans h7 hg⟩
def nSome : List Int := [4, 7, 10, 2, 0, 16]
theorem nSome_le : ∀ x ∈ nSome, 0 ≤ x ∧ x ≤ 16 := by decide
set_option maxRecDepth 100000 in
set_option maxHeartbeats 3000000 in
theorem l2Some_any (w0 : World) (A : Option Addr) (bs : List UInt8) (c g p : Nat) (w : World) (hR : Rd w0 w A bs c g p) (hp : p < 100000) :
    Calls Tryz.prog 21 #[.pointer (some ⟨g, 0, none⟩)] w fun e w' => ∃ (now : Int) (l : List Ver) (v : Value) (q : Nat), e = .returned (.agg #[.int .i64 now, v]) ∧ OwnV w' w.heap.size v l ∧ FitsV l ∧ l.length ≤ 60 ∧ 0 ≤ now ∧ now ≤ 40 ∧ q ≤ p + 3000 ∧ Rd w0 w' A bs c g q ∧ w.grownBy w' (some g) := by
  have hgl := hR.1.lt
  have hw0g := hR.2.2.1
  have hb0 := (((Below.refl w.heap.size w).alloc (Nat.le_refl _) (.cells #[.int .i64 0, .slice none 0 0] 36)).alloc (by simp) (.cells #[] 81)).alloc (by simp; omega) (.cells #[.int .i64 0, .slice (some ⟨w.heap.size + 1, 0, none⟩) 0 0] 36)
  have hB2 := ((Blk.new w 36 #[.int .i64 0, .slice none 0 0]).alloc (.cells #[] 81)).alloc (.cells #[.int .i64 0, .slice (some ⟨w.heap.size + 1, 0, none⟩) 0 0] 36)
  have hB3 := (Blk.new (w.alloc (.cells #[.int .i64 0, .slice none 0 0] 36)) 81 #[]).alloc (.cells #[.int .i64 0, .slice (some ⟨w.heap.size + 1, 0, none⟩) 0 0] 36)
  have hB4 := Blk.new ((w.alloc (.cells #[.int .i64 0, .slice none 0 0] 36)).alloc (.cells #[] 81)) 36 #[.int .i64 0, .slice (some ⟨w.heap.size + 1, 0, none⟩) 0 0]
  rw [World.size_alloc, World.size_alloc] at hB4
  rw [World.size_alloc] at hB3
  have ho := (own_of_blk (base := w.heap.size) (n := 0) (k := 4) (xs := []) hB3 (by omega) (Nat.zero_le _) rfl rfl)
  have HST := Lib.hid (show SM w0 w A bs c g 0 [] (some ⟨w.heap.size + 1, 0, none⟩) 0 p (((w.alloc (.cells #[.int .i64 0, .slice none 0 0] 36)).alloc (.cells #[] 81)).alloc (.cells #[.int .i64 0, .slice (some ⟨w.heap.size + 1, 0, none⟩) 0 0] 36)) from ⟨vers_start, ⟨Nat.zero_le _, fun x h => absurd h (by simp)⟩, hB4, hB2, ho, hR.below hb0, gr_below hb0⟩)
  have HS3 := Lib.hid (show (((w.alloc (.cells #[.int .i64 0, .slice none 0 0] 36)).alloc (.cells #[] 81)).alloc (.cells #[.int .i64 0, .slice (some ⟨w.heap.size + 1, 0, none⟩) 0 0] 36)).heap.size = w.heap.size + 3 by simp)
  clear hb0 hB2 hB4 hB3 ho hR
  go_enter Tryz.func21, Tryz.ntmps21
  go_wp2_with fail
  generalize (((w.alloc (.cells #[.int .i64 0, .slice none 0 0] 36)).alloc (.cells #[] 81)).alloc (.cells #[.int .i64 0, .slice (some ⟨w.heap.size + 1, 0, none⟩) 0 0] 36)) = w1 at *
  have S1 := Sl.litN w1 3 nSome #[.int .i64 4, .int .i64 7, .int .i64 10, .int .i64 2, .int .i64 0, .int .i64 16] rfl
  have hwn := (Below.refl w1.heap.size w1).alloc (Nat.le_refl _) (.cells #[.int .i64 4, .int .i64 7, .int .i64 10, .int .i64 2, .int .i64 0, .int .i64 16] 3)
  have HST1 := Lib.hid (HST.out.below hwn)
  rw [HS3.out] at S1
  clear hwn
  refine (num_any w0 A bs c g p (some ⟨w.heap.size + 3, 0, none⟩) nSome 6 _ HST1.out.2.2.2.2.2.1 (by omega) (by decide) S1 (by intro b o h; simp at h; omega)).mono ?_
  rintro e w2 ⟨m0, hm0, rfl, hR2, hG2⟩
  have hm5 := nSome_le m0 hm0
  have HST2 := Lib.hid (HST1.out.draw hR2 hG2 hgl)
  clear S1 hm0 hR2 hG2 HST HST1 HS3
  obtain ⟨m, rfl⟩ : ∃ m : Nat, m0 = m := ⟨m0.toNat, by omega⟩
  go_wp2
  go_loopw [4] (fun i wr => ∃ (m q : Nat) (now : Int) (l : List Ver) (A5 : Option Addr) (c5 : Nat), i = .int .i64 m ∧ m ≤ 16 ∧ q + 120 * m ≤ p + 2000 ∧ Hid (SM w0 w A bs c g now l A5 c5 q wr)) (fun i _ => (intOf i).toNat)
  case atStart => exact ⟨m, p + 1, 0, [], _, 0, rfl, by omega, by omega, HST2.out⟩
  case round =>
    clear HST2 hm5
    obtain ⟨m, q, now, l, A5, c5, rfl, hm, hq, HS⟩ := hrel
    obtain ⟨⟨hn0, hn1, hl60⟩, _⟩ := versB_out HS.out.1
    have r0 : wr.cell? ⟨w.heap.size + 2, 0, none⟩ = some (.int .i64 now) := HS.out.2.2.1.cell 0
    have r1 : wr.cell? ⟨w.heap.size + 2, 1, none⟩ = some (.slice A5 l.length c5) := HS.out.2.2.1.cell 1
    have hlt2 := HS.out.2.2.1.lt
    by_cases h0 : 0 < m
    · have HAT := Lib.hid (l2At_any A5 l c5 now now wr (by omega) HS.out.2.2.2.2.1.reads2)
      have hal := atL_le l now
      have HAF := Lib.hid (atL_fits (t := now) HS.out.2.1)
      generalize atL l now = rows at *
      go_wp2_with fail
      refine HAT.out.mono ?_
      rintro e w3 ⟨v3, rfl, ho3, hb3⟩
      obtain ⟨A6, c6, rfl, _, _, hS6⟩ := Sl.of_own encRow_len ho3
      have HS4 := Lib.hid (HS.out.below hb3)
      have HLW := Lib.hid (l2Writes_any w0 A bs c g q A6 rows c6 w3 HS4.out.2.2.2.2.2.1 (by omega) (by omega) HAF.out hS6 (fun b o e => by subst e; have := ho3.lt b rfl; omega))
      clear HAT HAF ho3 hS6 HS r0 r1 hb3
      go_wp2_with fail
      refine HLW.out.mono ?_
      rintro e w4 ⟨ws, vw, q2, rfl, how, hfw, hwl, hq2, hR4, hG4⟩
      obtain ⟨Aw, cw, rfl, _, _, hSw⟩ := how.sl
      have HS5 := Lib.hid (HS4.out.draw hR4 hG4 hgl)
      have HWO := Lib.hid (specWritesOk_any Aw ws cw w4 hfw (by omega) hSw)
      have HFW := Lib.hid hfw
      have HSW := Lib.hid hSw
      clear HLW HS4 how hfw hSw hR4 hG4
      go_wp2_with fail
      refine HWO.out.mono ?_
      rintro e w5 ⟨rfl, hb5⟩
      have HS6 := Lib.hid (HS5.out.below hb5)
      have HSW5 := Lib.hid (HSW.out.below hb5)
      clear HWO HS5 HSW hb5
      cases hok : wrsB 6 ws
      · clear hok
        go_wp2
        go_roundw
        case rel => exact ⟨m - 1, q2, now, l, A5, c5, by go_num, by omega, by omega, HS6.out⟩
        case measure => simp [intOf]; omega
      · clear hok
        have r0 : w5.cell? ⟨w.heap.size + 2, 0, none⟩ = some (.int .i64 now) := HS6.out.2.2.1.cell 0
        have r1 : w5.cell? ⟨w.heap.size + 2, 1, none⟩ = some (.slice A5 l.length c5) := HS6.out.2.2.1.cell 1
        have hlt5 := HS6.out.2.2.1.lt
        have hww := HS6.out.2.2.2.2.2.2.size
        have HC := Lib.hid (l2Do_any A5 Aw l ws c5 cw now w5 (by omega) (by omega) hn0 (by omega) HS6.out.2.1 HFW.out HS6.out.2.2.2.2.1.reads2 HSW5.out)
        have HOK := Lib.hid (doR_okS HS6.out.1 HS6.out.2.1 HFW.out (by omega))
        generalize doR now l ws = RR at *
        obtain ⟨⟨now2, l2⟩, okk⟩ := RR
        simp only at HOK
        go_wp2_with fail
        refine HC.out.mono ?_
        rintro e w6 ⟨v, rfl, hown, hb6⟩
        simp only at hown ⊢
        obtain ⟨A7, c7, rfl, _, _, hS7⟩ := hown.sl
        have HS7 := Lib.hid (HS6.out.below hb6)
        have hB7 := HS7.out.2.2.1
        have z0 := hB7.frozen 0
        have z1 := hB7.frozen 1
        have x0 : w6.cell? ⟨w.heap.size + 2, 0, none⟩ = some (.int .i64 now) := hB7.cell 0
        have x1 : w6.cell? ⟨w.heap.size + 2, 1, none⟩ = some (.slice A5 l.length c5) := hB7.cell 1
        have HN := Lib.hid (show SM w0 w A bs c g now2 l2 A7 c7 q2 ((w6.setCell ⟨w.heap.size + 2, 0, none⟩ (.int .i64 now2)).setCell ⟨w.heap.size + 2, 1, none⟩ (.slice A7 l2.length c7)) from
          ⟨HOK.out.1, HOK.out.2, (hB7.set_ 0 _).set_ 1 _, (HS7.out.2.2.2.1.far (p := ⟨w.heap.size + 2, 0, none⟩) (by simp) (.int .i64 now2)).far (p := ⟨w.heap.size + 2, 1, none⟩) (by simp) (.slice A7 l2.length c7), OwnV.le (own_set (own_set hown (p := ⟨w.heap.size + 2, 0, none⟩) hlt5 (.int .i64 now2)) (p := ⟨w.heap.size + 2, 1, none⟩) hlt5 (.slice A7 l2.length c7)) hww, (HS7.out.2.2.2.2.2.1.farS (p := ⟨w.heap.size + 2, 0, none⟩) (by simp; omega) (by simp; omega) (.int .i64 now2)).farS (p := ⟨w.heap.size + 2, 1, none⟩) (by simp; omega) (by simp; omega) (.slice A7 l2.length c7), gr_far (p := ⟨w.heap.size + 2, 1, none⟩) (gr_far (p := ⟨w.heap.size + 2, 0, none⟩) HS7.out.2.2.2.2.2.2 (by simp) (.int .i64 now2)) (by simp) (.slice A7 l2.length c7)⟩)
        clear hown hb6 hS7 hB7 r0 r1 HS6 HS7 HC
        go_wp2
        go_roundw
        case rel => exact ⟨m - 1, q2, now2, l2, A7, c7, by go_num, by omega, by omega, HN.out⟩
        case measure => simp [intOf]; omega
    · obtain rfl : m = 0 := by omega
      go_wp2_with fail
      refine (pick_any w0 A bs c g q 8 wr HS.out.2.2.2.2.2.1 (by omega) (by omega)).mono ?_
      rintro e w3 ⟨j, hj, rfl, hR3, hG3⟩
      have HS3 := Lib.hid (HS.out.draw hR3 hG3 hgl)
      clear HS hR3 hG3 r0 r1
      have r0 : w3.cell? ⟨w.heap.size + 2, 0, none⟩ = some (.int .i64 now) := HS3.out.2.2.1.cell 0
      have r1 : w3.cell? ⟨w.heap.size + 2, 1, none⟩ = some (.slice A5 l.length c5) := HS3.out.2.2.1.cell 1
      by_cases j0 : j = 0
      · subst j0
        obtain ⟨N, rfl⟩ : ∃ N : Nat, now = N := ⟨now.toNat, by omega⟩
        have hbd := (Below.refl w3.heap.size w3).drew
        have HS4 := Lib.hid (HS3.out.below hbd)
        have HC : Hid (Calls Tryz.prog 11 #[.pointer (some ⟨g, 0, none⟩), .int .i64 ((N : Int) + 1)] w3.drew fun e w' => ∃ k : Nat, k < N + 1 ∧ e = .returned (.int .i64 k) ∧ Rd w0 w' A bs c g (q + 1 + 1) ∧ w3.drew.grownBy w' (some g)) := Lib.hid (pick_any w0 A bs c g (q + 1) (N + 1) w3.drew HS4.out.2.2.2.2.2.1 (by omega) (by omega))
        clear hbd
        have hlt3 := HS3.out.2.2.1.lt
        have hwp : IntKind.i64.wrap ((N : Int) + 1) = (N : Int) + 1 := IntWalk.i64_in _ (by omega)
        go_wp2_with fail
        go_region_with (first
          | (go_at_call 42
             refine (HTR.out).mono ?_
             rintro e w5 ⟨now5, m5, v5, rfl, ho5, hf5, hl5, hn5, hn6, hb5⟩
             obtain ⟨A8, c8, rfl, _, _, hS8⟩ := ho5.sl
             have HS6 := Lib.hid (HS5.out.below hb5)
             have z0 := HS6.out.2.2.2.1.frozen 0
             have z1 := HS6.out.2.2.2.1.frozen 1
             have x0 : w5.cell? ⟨w.heap.size, 0, none⟩ = some (.int .i64 0) := HS6.out.2.2.2.1.cell 0
             have x1 : w5.cell? ⟨w.heap.size, 1, none⟩ = some (.slice none 0 0) := HS6.out.2.2.2.1.cell 1
             have HO5 := Lib.hid ho5
             have HF5 := Lib.hid hf5
             have hz4 := HS5.out.2.2.2.2.2.2.size
             clear hS8 ho5 hb5 hf5)
          | (go_at_call 11
             refine HC.out.mono ?_
             rintro e w4 ⟨j4, hj4, rfl, hR4, hG4⟩
             have HS5 := Lib.hid (HS4.out.draw hR4 hG4 hgl)
             have r0 : w4.cell? ⟨w.heap.size + 2, 0, none⟩ = some (.int .i64 (N : Int)) := HS5.out.2.2.1.cell 0
             have r1 : w4.cell? ⟨w.heap.size + 2, 1, none⟩ = some (.slice A5 l.length c5) := HS5.out.2.2.1.cell 1
             have HTR := Lib.hid (specTrim_any A5 l c5 (N : Int) (j4 : Int) w4 HS5.out.2.1 (by omega) HS5.out.2.2.2.2.1.reads2)
             clear hR4 hG4))
        all_goals
          obtain ⟨q0, q1⟩ := HS6.out.2.2.2.1.two (.int .i64 now5) (.slice A8 m5.length c8)
          have hlt4 : w.heap.size < w4.heap.size := HS5.out.2.2.2.1.lt
          have HO6 := Lib.hid (own_set (own_set HO5.out (p := ⟨w.heap.size, 0, none⟩) hlt4 (.int .i64 now5)) (p := ⟨w.heap.size, 1, none⟩) hlt4 (.slice A8 m5.length c8))
          have HR6 := Lib.hid ((HS6.out.2.2.2.2.2.1.farS (p := ⟨w.heap.size, 0, none⟩) (by simp; omega) (by simp; omega) (.int .i64 now5)).farS (p := ⟨w.heap.size, 1, none⟩) (by simp; omega) (by simp; omega) (.slice A8 m5.length c8))
          have HG6 := Lib.hid (gr_far (p := ⟨w.heap.size, 1, none⟩) (gr_far (p := ⟨w.heap.size, 0, none⟩) HS6.out.2.2.2.2.2.2 (by simp) (.int .i64 now5)) (by simp) (.slice A8 m5.length c8))
          go_wp2
          refine bodyPost_ret (v := .agg #[.int .i64 now5, .slice A8 m5.length c8]) (by simp [results, Tryz.results21, go_sem, q0, q1]) rfl ⟨now5, m5, _, q + 1 + 1, rfl, OwnV.le HO6.out hz4, HF5.out, hl5, hn5, hn6, by omega, HR6.out, HG6.out⟩
      · have j0' : ((j : Int) == 0) = false := by simp; omega
        have j1' : decide ((j : Int) = 0) = false := by simp; omega
        clear j0
        have hB3 := HS3.out.2.2.2.1
        have z0 := hB3.frozen 0
        have z1 := hB3.frozen 1
        have x0 : w3.cell? ⟨w.heap.size, 0, none⟩ = some (.int .i64 0) := hB3.cell 0
        have x1 : w3.cell? ⟨w.heap.size, 1, none⟩ = some (.slice none 0 0) := hB3.cell 1
        obtain ⟨q0, q1⟩ := hB3.two (.int .i64 now) (.slice A5 l.length c5)
        have HO6 := Lib.hid (own_setV HS3.out.2.2.2.2.1 hB3 (.int .i64 now) (.slice A5 l.length c5))
        have HR6 := Lib.hid ((HS3.out.2.2.2.2.2.1.farS (p := ⟨w.heap.size, 0, none⟩) (by simp; omega) (by simp; omega) (.int .i64 now)).farS (p := ⟨w.heap.size, 1, none⟩) (by simp; omega) (by simp; omega) (.slice A5 l.length c5))
        have HG6 := Lib.hid (gr_far (p := ⟨w.heap.size, 1, none⟩) (gr_far (p := ⟨w.heap.size, 0, none⟩) HS3.out.2.2.2.2.2.2 (by simp) (.int .i64 now)) (by simp) (.slice A5 l.length c5))
        clear hB3
        go_wp2
        refine bodyPost_ret (v := .agg #[.int .i64 now, .slice A5 l.length c5]) (by simp [results, Tryz.results21, go_sem, q0, q1]) rfl ⟨now, l, _, q + 1, rfl, HO6.out, HS3.out.2.1, hl60, hn0, hn1, by omega, HR6.out, HG6.out⟩
end Go.Proofs.YtfmhhckkpenldaaGreatDoor
