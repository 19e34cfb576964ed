/- The draws of stores. -/
import Derived.Test.YtpjkcmmmpgncmaaL2Some
import Derived.Test.YtpjkcmmmpgncmaaL2Bent
import Derived.Deep.RegionHeld3
namespace Go.Proofs.Ytpjkcmmmpgncmaa
open Go.RowKit
set_option maxRecDepth 100000 in
set_option maxHeartbeats 3000000 in
theorem drawOk_any (A : Option Addr) (bs : List UInt8) (c : Nat) (w : World) (hn : bs.length ≤ 1048576) (hc : bs.length ≤ c) (hm : c ≤ maxLen) (hS : Sl encU 1 w A bs) :
    Calls Try.prog 71 #[.slice A bs.length c] w fun e w' => ∃ (now : Int) (l : List Ver) (v : Value), e = .returned (.agg #[.int .i64 now, v]) ∧ OwnV w' w.heap.size v l ∧ FitsV l ∧ l.length ≤ 61 ∧ -2 ≤ now ∧ now ≤ 1001 ∧ Below w.heap.size w w' := by
  have hb0 := (Below.refl w.heap.size w).alloc (Nat.le_refl _) (.cells #[.int .i64 0, .slice none 0 0] 32)
  have hB0 := Blk.new w 32 #[.int .i64 0, .slice none 0 0]
  have HOP := Lib.hid (open_any A bs c (w.alloc (.cells #[.int .i64 0, .slice none 0 0] 32)) hn hc hm (hS.below hb0))
  have hs0 : w.heap.size < (w.alloc (.cells #[.int .i64 0, .slice none 0 0] 32)).heap.size := by simp
  clear hS
  go_enter Try.func71, Try.ntmps71
  go_wp2_with fail
  generalize w.alloc (.cells #[.int .i64 0, .slice none 0 0] 32) = w0 at *
  refine HOP.out.mono ?_
  rintro e w1 ⟨bs', c', g, rfl, hR1, hb1⟩
  have hg0 := hR1.2.2.1
  have hgl := hR1.1.lt
  have hB1 := hB0.kept hb1
  clear HOP hB0 hb1
  go_wp2_with fail
  refine (l2Some_any w0 A bs' c' g 0 w1 hR1 (by omega)).mono ?_
  rintro e w2 ⟨now, l, v, q, rfl, ho2, hf2, hl2, hn0, hn1, hq, hR2, hG2⟩
  obtain ⟨A2, c2, rfl, _, _, hS2⟩ := ho2.sl
  have hB2 := hB1.grown hG2 (by simp; omega)
  have hg12 := hG2.size
  clear hB1 hR1 hG2 ho2
  go_wp2_with fail
  refine (l2Bent_any w0 A bs' c' g q A2 l c2 now w2 hR2 (by omega) hl2 (by omega) (by omega) hf2 hS2).mono ?_
  rintro e w3 ⟨now3, l3, v3, q3, rfl, ho3, hf3, hl3, hm0, hm1, hq3, hR3, hG3⟩
  have hB3 := hB2.grown hG3 (by simp; omega)
  obtain ⟨A3, c3, rfl, _, _, hS3⟩ := ho3.sl
  have hbw := hb0.trans (hR3.2.1.mono (by omega))
  have hg2 := hR2.2.1.size
  clear hS2 hf2 hB2 hR2 hS3
  have z0 := hB3.frozen 0
  have z1 := hB3.frozen 1
  have x0 : w3.cell? ⟨w.heap.size, 0, none⟩ = some (.int .i64 0) := hB3.cell 0
  have x1 : w3.cell? ⟨w.heap.size, 1, none⟩ = some (.slice none 0 0) := hB3.cell 1
  obtain ⟨q0, q1⟩ := hB3.two (.int .i64 now3) (.slice A3 l3.length c3)
  have HO := Lib.hid (own_set (own_set ho3 (p := ⟨w.heap.size, 0, none⟩) (by simp; omega) (.int .i64 now3)) (p := ⟨w.heap.size, 1, none⟩) (by simp; omega) (.slice A3 l3.length c3))
  clear ho3 hB3
  go_wp2
  refine bodyPost_ret (v := .agg #[.int .i64 now3, .slice A3 l3.length c3]) (by simp [results, Try.results71, go_sem, q0, q1]) rfl ⟨now3, l3, _, rfl, OwnV.le HO.out (by omega), hf3, hl3, hm0, hm1, (hbw.setCell (by simp) _).setCell (by simp) _⟩
set_option maxRecDepth 100000 in
theorem l1Max_any (now : Int) (w : World) (h0 : -2 ≤ now) (h1 : now ≤ 1001) :
    Calls Try.prog 84 #[.int .i64 1, .int .i64 now] w fun e w' => ∃ m : Nat, e = .returned (.int .i64 m) ∧ 1 ≤ m ∧ m ≤ 1001 ∧ w' = w := by
  go_enter Try.func84, Try.ntmps84
  by_cases h : now < 1
  · have d0 : decide (now < 1) = true := decide_eq_true h
    go_wp2
    go_ret
    exact ⟨1, rfl, by omega, by omega, rfl⟩
  · have d0 : decide (now < 1) = false := decide_eq_false h
    obtain ⟨N, rfl⟩ : ∃ N : Nat, now = N := ⟨now.toNat, by omega⟩
    go_wp2
    go_ret
    exact ⟨N, rfl, by omega, by omega, rfl⟩
/-- what stands while a time is drawn -/
def DA (w w0 : World) (A : Option Addr) (bs : List UInt8) (c g g5 : Nat) (now : Int) (A3 : Option Addr) (l : List Ver) (c3 base q : Nat) (W : World) : Prop :=
  Blk W g5 32 #[.int .i64 now, .slice A3 l.length c3] ∧ Blk W w.heap.size 32 #[.int .i64 0, .slice none 0 0] ∧ OwnV W base (.slice A3 l.length c3) l ∧ Rd w0 W A bs c g q
theorem DA.below {w w0 : World} {A : Option Addr} {bs : List UInt8} {c g g5 : Nat} {now : Int} {A3 : Option Addr} {l : List Ver} {c3 base q : Nat} {W W' : World} (h : DA w w0 A bs c g g5 now A3 l c3 base q W) (hb : Below W.heap.size W W') : DA w w0 A bs c g g5 now A3 l c3 base q W' :=
  ⟨h.1.kept hb, h.2.1.kept hb, own_kept h.2.2.1 hb, h.2.2.2.below hb⟩
theorem DA.draw {w w0 : World} {A : Option Addr} {bs : List UInt8} {c g g5 : Nat} {now : Int} {A3 : Option Addr} {l : List Ver} {c3 base q q' : Nat} {W W' : World} (h : DA w w0 A bs c g g5 now A3 l c3 base q W) (hR : Rd w0 W' A bs c g q') (hg : W.grownBy W' (some g)) (h1 : w.heap.size < g) (h2 : g < base) (h3 : g < g5) : DA w w0 A bs c g g5 now A3 l c3 base q' W' :=
  ⟨h.1.grown hg (by simp; omega), h.2.1.grown hg (by simp; omega), own_gr h.2.2.1 hg h2, hR⟩
set_option maxRecDepth 100000 in
set_option maxHeartbeats 3000000 in
theorem drawAt_any (A : Option Addr) (bs : List UInt8) (c : Nat) (w : World) (hn : bs.length ≤ 1048576) (hc : bs.length ≤ c) (hm : c ≤ maxLen) (hS : Sl encU 1 w A bs) :
    Calls Try.prog 48 #[.slice A bs.length c] w fun e w' => ∃ (now t : Int) (l : List Ver) (v : Value), e = .returned (.tuple #[.agg #[.int .i64 now, v], .int .i64 t]) ∧ OwnV w' w.heap.size v l ∧ FitsV l ∧ l.length ≤ 61 ∧ -2 ≤ now ∧ now ≤ 1001 ∧ Below w.heap.size w w' := by
  have hb0 := (Below.refl w.heap.size w).alloc (Nat.le_refl _) (.cells #[.int .i64 0, .slice none 0 0] 32)
  have hB0 := Blk.new w 32 #[.int .i64 0, .slice none 0 0]
  have HOP := Lib.hid (open_any A bs c (w.alloc (.cells #[.int .i64 0, .slice none 0 0] 32)) hn hc hm (hS.below hb0))
  have hs0 : w.heap.size < (w.alloc (.cells #[.int .i64 0, .slice none 0 0] 32)).heap.size := by simp
  clear hS
  go_enter Try.func48, Try.ntmps48
  go_wp2_with fail
  generalize w.alloc (.cells #[.int .i64 0, .slice none 0 0] 32) = w0 at *
  refine HOP.out.mono ?_
  rintro e w1 ⟨bs', c', g, rfl, hR1, hb1⟩
  have hg0 := hR1.2.2.1
  have hgl := hR1.1.lt
  have hB1 := hB0.kept hb1
  clear HOP hB0 hb1
  go_wp2_with fail
  refine (l2Some_any w0 A bs' c' g 0 w1 hR1 (by omega)).mono ?_
  rintro e w2 ⟨now, l, v, q, rfl, ho2, hf2, hl2, hn0, hn1, hq, hR2, hG2⟩
  obtain ⟨A2, c2, rfl, _, _, hS2⟩ := ho2.sl
  have hB2 := hB1.grown hG2 (by simp; omega)
  have hg12 := hG2.size
  clear hB1 hR1 hG2 ho2
  go_wp2_with fail
  refine (l2Bent_any w0 A bs' c' g q A2 l c2 now w2 hR2 (by omega) hl2 (by omega) (by omega) hf2 hS2).mono ?_
  rintro e w3 ⟨now3, l3, v3, q3, rfl, ho3, hf3, hl3, hm0, hm1, hq3, hR3, hG3⟩
  have hB3 := hB2.grown hG3 (by simp; omega)
  obtain ⟨A3, c3, rfl, _, _, hS3⟩ := ho3.sl
  have hbw := hb0.trans (hR3.2.1.mono (by omega))
  have hg2 := hR2.2.1.size
  clear hS2 hf2 hB2 hR2 hS3
  have hbn := (Below.refl w3.heap.size w3).alloc (Nat.le_refl _) (.cells #[.int .i64 now3, .slice A3 l3.length c3] 32)
  have hB5 := Blk.new w3 32 #[.int .i64 now3, .slice A3 l3.length c3]
  have ho5 : OwnV (w3.alloc (.cells #[.int .i64 now3, .slice A3 l3.length c3] 32)) w2.heap.size (.slice A3 l3.length c3) l3 := own_kept ho3 hbn
  have hB25 := hB3.kept hbn
  have hR5 := hR3.below hbn
  have hg35 := hG3.size
  clear hbn ho3 hB3 hG3
  go_wp2_with fail
  generalize w3.alloc (.cells #[.int .i64 now3, .slice A3 l3.length c3] 32) = w4 at *
  have hl5 := hB5.lt
  generalize w3.heap.size = g5 at *
  have hbd := (Below.refl w4.heap.size w4).drew
  have hg25 : g < g5 := by have := hR5.1.lt; omega
  have HD := Lib.hid ((show DA w w0 A bs' c' g g5 now3 A3 l3 c3 w2.heap.size q3 w4 from ⟨hB5, hB25, ho5, hR5⟩).below hbd)
  have HF := Lib.hid hf3
  have hwp : IntKind.i64.wrap (now3 + 1) = now3 + 1 := by rw [IntKind.wrap_i64]; omega
  have r0 : w4.cell? ⟨g5, 0, none⟩ = some (.int .i64 now3) := hB5.cell 0
  have r1 : w4.cell? ⟨g5, 1, none⟩ = some (.slice A3 l3.length c3) := hB5.cell 1
  have hgw : w.heap.size < g := by omega
  have hg2' : g < w2.heap.size := by omega
  have hws : w.heap.size < g5 := by omega
  have HWP := Lib.hid hwp
  clear hbd hB5 hB25 hR5 ho5 hf3
  go_region_held3 (fun W => W.cell? ⟨g5, 0, none⟩ = some (.int .i64 now3) ∧ W.cell? ⟨g5, 1, none⟩ = some (.slice A3 l3.length c3))
    (first | assumption | go_keep)
    (first
      | (go_at_call 84
         refine (l1Max_any now3 _ (by omega) (by omega)).mono ?_
         rintro e w' ⟨m, rfl, hm1', hm2', rfl⟩)
      | (go_at_call 83
         refine (pick_any w0 A bs' c' g _ _ _ HD.out.2.2.2 (by omega) (by omega)).mono ?_
         rintro e wk ⟨k, hk, rfl, hRk, hGk⟩
         have HD := Lib.hid (HD.out.draw hRk hGk hgw hg2' hg25)
         have hkk : wk.cell? ⟨g5, 0, none⟩ = some (.int .i64 now3) ∧ wk.cell? ⟨g5, 1, none⟩ = some (.slice A3 l3.length c3) := ⟨HD.out.1.cell 0, HD.out.1.cell 1⟩
         clear hRk hGk)
      | (go_at_call 56
         refine (num_any w0 A bs' c' g _ (some ⟨_, 0, none⟩) [_, _, _, _, _, _, _] 7 _ (HD.out.2.2.2.alloc _) (by omega) ⟨by simp, by simp⟩ (Sl.litN _ _ _ _ rfl) (by intro b o h; have := HD.out.2.2.2.1.lt; simp at h; omega)).mono ?_
         rintro e w8 ⟨x, _, rfl, hR8, hG8⟩
         have HD8 := Lib.hid ((HD.out.below ((Below.refl _ _).alloc (Nat.le_refl _) _)).draw hR8 hG8 hgw hg2' hg25)
         have hkk : w8.cell? ⟨g5, 0, none⟩ = some (.int .i64 now3) ∧ w8.cell? ⟨g5, 1, none⟩ = some (.slice A3 l3.length c3) := ⟨HD8.out.1.cell 0, HD8.out.1.cell 1⟩
         have z0 := HD8.out.2.1.frozen 0
         have z1 := HD8.out.2.1.frozen 1
         have x0 : w8.cell? ⟨w.heap.size, 0, none⟩ = some (.int .i64 0) := HD8.out.2.1.cell 0
         have x1 : w8.cell? ⟨w.heap.size, 1, none⟩ = some (.slice none 0 0) := HD8.out.2.1.cell 1
         have hks : ((w8.setCell ⟨w.heap.size, 0, none⟩ (.int .i64 now3)).setCell ⟨w.heap.size, 1, none⟩ (.slice A3 l3.length c3)).cell? ⟨g5, 0, none⟩ = some (.int .i64 now3) ∧ ((w8.setCell ⟨w.heap.size, 0, none⟩ (.int .i64 now3)).setCell ⟨w.heap.size, 1, none⟩ (.slice A3 l3.length c3)).cell? ⟨g5, 1, none⟩ = some (.slice A3 l3.length c3) := by
           have h := (HD8.out.1.far (p := ⟨w.heap.size, 0, none⟩) (by simp; omega) (.int .i64 now3)).far (p := ⟨w.heap.size, 1, none⟩) (by simp; omega) (.slice A3 l3.length c3)
           exact ⟨h.cell 0, h.cell 1⟩
         clear hR8 hG8))
  all_goals
    obtain ⟨q0, q1⟩ := HD8.out.2.1.two (.int .i64 now3) (.slice A3 l3.length c3)
    have HO8 := Lib.hid (own_set (own_set HD8.out.2.2.1 (p := ⟨w.heap.size, 0, none⟩) (by simp; omega) (.int .i64 now3)) (p := ⟨w.heap.size, 1, none⟩) (by simp; omega) (.slice A3 l3.length c3))
    have HBE := Lib.hid (((hb0.trans (HD8.out.2.2.2.2.1.mono (by omega))).setCell (p := ⟨w.heap.size, 0, none⟩) (by simp) (.int .i64 now3)).setCell (p := ⟨w.heap.size, 1, none⟩) (by simp) (.slice A3 l3.length c3))
    go_wp2
    refine bodyPost_ret (v := .tuple #[.agg #[.int .i64 now3, .slice A3 l3.length c3], .int .i64 x]) (by simp [results, Try.results48, go_sem, q0, q1]) rfl ⟨now3, x, l3, _, rfl, OwnV.le HO8.out (by omega), HF.out, hl3, hm0, hm1, HBE.out⟩
end Go.Proofs.Ytpjkcmmmpgncmaa
