/- Two rows of what is done that read as the same lists are told to be one; the draws of a store, and of a store and a time. -/
import Derived.Test.YtpjkcmmmpgncmaaDrawV
import Derived.Test.YtpjkcmmmpgncmaaWrA
import Derived.Test.YtpjkcmmmpgncmaaPastD
namespace Go.Proofs.Ytpjkcmmmpgncmaa
open Go.RowKit
set_option maxRecDepth 100000 in
set_option maxHeartbeats 1000000 in
theorem wpWrites_same (A A2 : Option Addr) (l : List Wri) (c c2 : Nat) (w : World) (hn : l.length ≤ 1048576) (hS : Sl encWri 3 w A l) (hS2 : Sl encWri 3 w A2 l) :
    Calls Try.prog 17 #[.slice A l.length c, .slice A2 l.length c2] w fun e w' => e = .returned (.bool true) ∧ Below w.heap.size w w' := by
  go_enter Try.func17, Try.ntmps17
  go_wp2
  go_loopw [5] (fun i wr => ∃ k : Nat, k ≤ l.length ∧ i = .int .i64 k ∧ Below w.heap.size w wr) (fun i _ => l.length - (intOf i).toNat)
  case atStart => exact ⟨0, by omega, rfl, Below.refl _ _⟩
  case round =>
    obtain ⟨k, hk, rfl, hb⟩ := hrel
    by_cases hlt : k < l.length
    · obtain ⟨b, o, rfl, hbl, c0, c1, c2'⟩ := Sl.at3 (hS.below hb) hlt
      obtain ⟨b2, o2, rfl, hbl2, d0, d1, d2⟩ := Sl.at3 (hS2.below hb) hlt
      generalize l[k] = x at *
      obtain ⟨xk, xn, xg⟩ := x
      simp only at c0 c1 c2' d0 d1 d2
      have hki : (k : Int) < (l.length : Int) := by omega
      clear hS hS2
      go_wp2_with fail
      refine wp_region_below (by kernel_rfl) (by kernel_rfl) ?_
      iterate 9 (refine wpQuiet_step (fun K hK => ?_); go_simp; first | (apply Exists.intro; refine ⟨fun W hW => ?_, hK _ ?_⟩; (first | rfl | (have e0 := (hW.cell (p := ⟨b, o + k * 3, none⟩) hbl).trans c0; have e1 := (hW.cell (p := ⟨b, o + k * 3 + 1, none⟩) hbl).trans c1; have e2 := (hW.cell (p := ⟨b, o + k * 3 + 2, none⟩) hbl).trans c2'; have f0 := (hW.cell (p := ⟨b2, o2 + k * 3, none⟩) hbl2).trans d0; have f1 := (hW.cell (p := ⟨b2, o2 + k * 3 + 1, none⟩) hbl2).trans d1; have f2 := (hW.cell (p := ⟨b2, o2 + k * 3 + 2, none⟩) hbl2).trans d2; go_simp; rfl)); clear hK K) | (refine hK _ ?_; clear hK K))
      refine wpQuiet_nil ?_
      intro W hW
      have hb' := bthen hb hW
      go_wp2
      go_roundw
      case rel => exact ⟨k + 1, by omega, by go_num, hb'⟩
      case measure => simp [intOf]; omega
    · obtain rfl : k = l.length := by omega
      go_wp2
      go_ret
      exact ⟨rfl, hb⟩
set_option maxRecDepth 100000 in
set_option maxHeartbeats 2000000 in
theorem drawPastAt_any (A : Option Addr) (bs : List UInt8) (c : Nat) (w : World) (hn : bs.length ≤ 1048576) (hc : bs.length ≤ c) (hm : c ≤ maxLen) (hS : Sl encU 1 w A bs) :
    Calls Try.prog 15 #[.slice A bs.length c] w fun e w' => ∃ (now t : Int) (l : List Ver) (v : Value), e = .returned (.tuple #[.agg #[.int .i64 now, v], .int .i64 t]) ∧ OwnV w' w.heap.size v l ∧ FitsV l ∧ l.length ≤ 61 ∧ -2 ≤ now ∧ now ≤ 1001 ∧ Below w.heap.size w w' := by
  have hb0 := (Below.refl w.heap.size w).alloc (Nat.le_refl _) (.cells #[.int .i64 0, .slice none 0 0] 32)
  have hB0 := Blk.new w 32 #[.int .i64 0, .slice none 0 0]
  have HD := Lib.hid (drawAt_any A bs c (w.alloc (.cells #[.int .i64 0, .slice none 0 0] 32)) hn hc hm (hS.below hb0))
  have hs0 : w.heap.size < (w.alloc (.cells #[.int .i64 0, .slice none 0 0] 32)).heap.size := by simp
  clear hS
  go_enter Try.func15, Try.ntmps15
  go_wp2_with fail
  generalize w.alloc (.cells #[.int .i64 0, .slice none 0 0] 32) = w0 at *
  refine HD.out.mono ?_
  rintro e w1 ⟨now, t, l, v, rfl, ho, hf, hl, hm0, hm1, hb1⟩
  have hB1 := hB0.kept hb1
  obtain ⟨A3, c3, rfl, _, _, hS3⟩ := ho.sl
  have hbw := hb0.trans (hb1.mono (by omega))
  have z0 := hB1.frozen 0
  have z1 := hB1.frozen 1
  have x0 : w1.cell? ⟨w.heap.size, 0, none⟩ = some (.int .i64 0) := hB1.cell 0
  have x1 : w1.cell? ⟨w.heap.size, 1, none⟩ = some (.slice none 0 0) := hB1.cell 1
  obtain ⟨q0, q1⟩ := hB1.two (.int .i64 now) (.slice A3 l.length c3)
  have HO := Lib.hid (own_set (own_set ho (p := ⟨w.heap.size, 0, none⟩) (by simp; omega) (.int .i64 now)) (p := ⟨w.heap.size, 1, none⟩) (by simp; omega) (.slice A3 l.length c3))
  clear ho hB1 hB0 HD hS3 hb0 hb1
  go_wp2
  refine bodyPost_ret (v := .tuple #[.agg #[.int .i64 now, .slice A3 l.length c3], .int .i64 t]) (by simp [results, Try.results15, go_sem, q0, q1]) rfl ⟨now, t, l, _, rfl, OwnV.le HO.out (by omega), hf, hl, hm0, hm1, (hbw.setCell (by simp) _).setCell (by simp) _⟩
set_option maxRecDepth 100000 in
set_option maxHeartbeats 2000000 in
theorem drawPastAll_any (A : Option Addr) (bs : List UInt8) (c : Nat) (w : World) (hn : bs.length ≤ 1048576) (hc : bs.length ≤ c) (hm : c ≤ maxLen) (hS : Sl encU 1 w A bs) :
    Calls Try.prog 35 #[.slice A bs.length c] w fun e w' => ∃ (now : Int) (l : List Ver) (v : Value), e = .returned (.agg #[.int .i64 now, v]) ∧ OwnV w' w.heap.size v l ∧ FitsV l ∧ l.length ≤ 61 ∧ -2 ≤ now ∧ now ≤ 1001 ∧ Below w.heap.size w w' := by
  have hb0 := (Below.refl w.heap.size w).alloc (Nat.le_refl _) (.cells #[.int .i64 0, .slice none 0 0] 32)
  have hB0 := Blk.new w 32 #[.int .i64 0, .slice none 0 0]
  have HD := Lib.hid (drawOk_any A bs c (w.alloc (.cells #[.int .i64 0, .slice none 0 0] 32)) hn hc hm (hS.below hb0))
  have hs0 : w.heap.size < (w.alloc (.cells #[.int .i64 0, .slice none 0 0] 32)).heap.size := by simp
  clear hS
  go_enter Try.func35, Try.ntmps35
  go_wp2_with fail
  generalize w.alloc (.cells #[.int .i64 0, .slice none 0 0] 32) = w0 at *
  refine HD.out.mono ?_
  rintro e w1 ⟨now, l, v, rfl, ho, hf, hl, hm0, hm1, hb1⟩
  have hB1 := hB0.kept hb1
  obtain ⟨A3, c3, rfl, _, _, hS3⟩ := ho.sl
  have hbw := hb0.trans (hb1.mono (by omega))
  have z0 := hB1.frozen 0
  have z1 := hB1.frozen 1
  have x0 : w1.cell? ⟨w.heap.size, 0, none⟩ = some (.int .i64 0) := hB1.cell 0
  have x1 : w1.cell? ⟨w.heap.size, 1, none⟩ = some (.slice none 0 0) := hB1.cell 1
  obtain ⟨q0, q1⟩ := hB1.two (.int .i64 now) (.slice A3 l.length c3)
  have HO := Lib.hid (own_set (own_set ho (p := ⟨w.heap.size, 0, none⟩) (by simp; omega) (.int .i64 now)) (p := ⟨w.heap.size, 1, none⟩) (by simp; omega) (.slice A3 l.length c3))
  clear ho hB1 hB0 HD hS3 hb0 hb1
  go_wp2
  refine bodyPost_ret (v := .agg #[.int .i64 now, .slice A3 l.length c3]) (by simp [results, Try.results35, go_sem, q0, q1]) rfl ⟨now, l, _, rfl, OwnV.le HO.out (by omega), hf, hl, hm0, hm1, (hbw.setCell (by simp) _).setCell (by simp) _⟩
end Go.Proofs.Ytpjkcmmmpgncmaa
