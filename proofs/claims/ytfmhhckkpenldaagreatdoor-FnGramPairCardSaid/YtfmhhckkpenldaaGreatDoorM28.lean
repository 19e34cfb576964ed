import Derived.Deep.RegionHeld3
import Derived.BigQuiet
import Derived.Test.YtfmhhckkpenldaaGreatDoorM18
import Derived.Test.YtfmhhckkpenldaaGreatDoorL3M
import Derived.Deep.RegionWith
import Derived.Test.YtfmhhckkpenldaaGreatDoorM22
/- The reference's WorkEnd: what one did is done. -/
namespace Go.Proofs.YtfmhhckkpenldaaGreatDoor
open Go.RowKit
theorem doR_ok {now : Int} {l : List Ver} {ws : List Wri} (hf : FitsV l) (hl : l.length ≤ 60) (h0 : 0 ≤ now) (h1 : now ≤ 40) (hw : FitsW ws) : FitsV (doR now l ws).1.2 ∧ (doR now l ws).1.2.length ≤ 60 ∧ 0 ≤ (doR now l ws).1.1 ∧ (doR now l ws).1.1 ≤ 40 := by
  unfold doR
  cases hv : versB (now + 1) (doS (now + 1) l ws)
  · rw [if_neg (by simp)]
    exact ⟨hf, hl, h0, h1⟩
  · rw [if_pos rfl]
    obtain ⟨⟨a1, a2, a3⟩, _⟩ := versB_out hv
    exact ⟨⟨by simp only; unfold maxLen; omega, doS_fits ws l hf.2 hw.2⟩, a3, a1, a2⟩
theorem VK.nil (W : World) (A : Option Addr) : VK W 0 A [] := ⟨SlK.nil _ _, ⟨Nat.zero_le _, fun y h => absurd h (by simp)⟩, by simp, by decide, by decide⟩
/-- how WorkEnd leaves -/
def EndPost (w : World) (e : Ending) (w' : World) : Prop :=
  ∃ (now' : Int) (A' : Option Addr) (l' : List Ver) (c' : Nat) (d : Int), e = .returned (.tuple #[.agg #[.int .i64 now', .slice A' l'.length c'], .int .i64 d]) ∧ VK w' now' A' l' ∧ 0 ≤ d ∧ d ≤ 3 ∧ Below w.heap.size w w'
set_option maxRecDepth 100000 in
set_option maxHeartbeats 8000000 in
theorem workEnd_any (A : Option Addr) (l : List Ver) (c : Nat) (now : Int) (t : Int) (A2 : Option Addr) (ws : List Wri) (c2 : Nat) (w : World) (hV : VK w now A l) (hW : WK w A2 ws) :
    Calls Tryz.prog 89 #[.agg #[.int .i64 now, .slice A l.length c], .agg #[.int .i64 t, .slice A2 ws.length c2]] w (EndPost w) := by
  have hl : l.length ≤ 60 := hV.2.2.1
  have hw8 : ws.length ≤ 8 := hW.2.2
  have HN := Lib.hid (⟨hV.2, hW.2⟩ : _ ∧ _)
  have hbE := allocAll_below w [(36, #[.int .i64 now, .slice A l.length c]), (39, #[.int .i64 t, .slice A2 ws.length c2]), (36, #[.int .i64 0, .slice none 0 0])]
  have H : Hid (SP w [(w.heap.size, 36, #[.int .i64 now, .slice A l.length c]), (w.heap.size + 1, 39, #[.int .i64 t, .slice A2 ws.length c2]), (w.heap.size + 1 + 1, 36, #[.int .i64 0, .slice none 0 0])] [fun W => VK W now A l, fun W => WK W A2 ws] ((allocAll w [(36, #[.int .i64 now, .slice A l.length c]), (39, #[.int .i64 t, .slice A2 ws.length c2]), (36, #[.int .i64 0, .slice none 0 0])]))) := Lib.hid (SP.add (SP.add (SP.start w [(36, #[.int .i64 now, .slice A l.length c]), (39, #[.int .i64 t, .slice A2 ws.length c2]), (36, #[.int .i64 0, .slice none 0 0])]) _ VK.c (VK.c _ _ (Kp.below hbE) hV)) _ WK.c (WK.c _ _ (Kp.below hbE) hW))
  clear hbE
  go_enter Tryz.func89, Tryz.ntmps89
  clear hV hW
  go_wp2_with fail
  change Calls _ _ _ (allocAll w [(36, #[.int .i64 now, .slice A l.length c]), (39, #[.int .i64 t, .slice A2 ws.length c2]), (36, #[.int .i64 0, .slice none 0 0])]) _
  generalize (allocAll w [(36, #[.int .i64 now, .slice A l.length c]), (39, #[.int .i64 t, .slice A2 ws.length c2]), (36, #[.int .i64 0, .slice none 0 0])]) = w0 at *
  refine (workOk_any A l c now t A2 ws c2 w0 (H.out.get 0 rfl) (H.out.get 1 rfl)).mono ?_
  rintro e w1 ⟨rfl, hb1⟩
  replace H := Lib.hid (H.out.kept hb1)
  clear hb1
  cases hv : workB now l t ws
  case false =>
    clear hv
    obtain ⟨x2_0, x2_1⟩ := Blk.q2 (H.out.blk 2 rfl)
    obtain ⟨z2_0, z2_1⟩ := Blk.z2 (H.out.blk 2 rfl)
    have HZ := Lib.hid (SP.set (SP.set (H.out) 2 0 (.int .i64 0) rfl (by decide)) 2 1 (.slice none 0 0) rfl (by decide))
    clear H
    go_wp2
    refine bodyPost_ret (v := .tuple #[.agg #[.int .i64 0, .slice none 0 0], .int .i64 1]) ?_ rfl (⟨0, none, [], 0, 1, rfl, VK.nil _ _, by decide, by decide, HZ.out.below⟩)
    simp [results, Tryz.results89, go_sem, x2_0, x2_1]
  clear hv
  obtain ⟨x1_0, x1_1⟩ := Blk.q2 (H.out.blk 1 rfl)
  go_wp2
  clear x1_0 x1_1
  go_loopw [6] (fun i wr => ∃ k : Nat, k ≤ ws.length ∧ i = .int .i64 k ∧ Hid (SP w [(w.heap.size, 36, #[.int .i64 now, .slice A l.length c]), (w.heap.size + 1, 39, #[.int .i64 t, .slice A2 ws.length c2]), (w.heap.size + 1 + 1, 36, #[.int .i64 0, .slice none 0 0])] [fun W => VK W now A l, fun W => WK W A2 ws] wr)) (fun i _ => ws.length - (intOf i).toNat)
  case atStart => exact ⟨0, by omega, rfl, H⟩
  case round =>
    clear H
    obtain ⟨k, hk, rfl, HQ⟩ := hrel
    have H := Lib.hid HQ.out
    clear HQ
    obtain ⟨x0_0, x0_1⟩ := Blk.q2 (H.out.blk 0 rfl)
    obtain ⟨x1_0, x1_1⟩ := Blk.q2 (H.out.blk 1 rfl)
    have l0 := (H.out.blk 0 rfl).lt
    have l1 := (H.out.blk 1 rfl).lt
    by_cases hlt : k < ws.length
    case pos =>
      obtain ⟨b, o, rfl, hbl, c0, c1, c2⟩ := Sl.at3 (WK.sl (H.out.get 1 rfl)) hlt
      generalize ws[k] = x at *
      obtain ⟨xk, xn, xg⟩ := x
      simp only at c0 c1 c2
      clear c1 c2
      have hki : (k : Int) < (ws.length : Int) := by omega
      have hki0 : (0 : Int) ≤ (k : Int) := by omega
      go_wp2_with fail
      refine wp_region_below (by kernel_rfl) (by kernel_rfl) ?_
      iterate 11 (refine wpQuiet_step (fun K hK => ?_); go_simp; first | (apply Exists.intro; refine ⟨fun W hW => ?_, hK _ ?_⟩; (first | rfl | (go_at_call 102; exact quiet_call hW (Nat.le_refl _) (l2Last_any A l c now xk W (by omega) (VK.sl (SP.get (H.out.kept hW) 0 rfl)))) | (have X0 := (hW.cell (p := ⟨w.heap.size, 0, none⟩) l0).trans x0_0; have X1 := (hW.cell (p := ⟨w.heap.size, 1, none⟩) l0).trans x0_1; have X2 := (hW.cell (p := ⟨w.heap.size + 1, 0, none⟩) l1).trans x1_0; have X3 := (hW.cell (p := ⟨w.heap.size + 1, 1, none⟩) l1).trans x1_1; have X4 := (hW.cell (p := ⟨b, o + k * 3, none⟩) hbl).trans c0; go_simp; rfl)); clear hK K) | (refine hK _ ?_; clear hK K))
      refine wpQuiet_nil ?_
      intro W hW
      replace H : Hid (SP w [(w.heap.size, 36, #[.int .i64 now, .slice A l.length c]), (w.heap.size + 1, 39, #[.int .i64 t, .slice (some ⟨b, o, none⟩) ws.length c2]), (w.heap.size + 1 + 1, 36, #[.int .i64 0, .slice none 0 0])] [fun W => VK W now A l, fun W => WK W (some ⟨b, o, none⟩) ws] W) := Lib.hid (H.out.kept hW)
      clear x0_0 x0_1 x1_0 x1_1 l0 l1 hW c0 hbl
      generalize W = w2 at *
      by_cases hlt2 : t < lastN l xk
      case pos =>
        obtain ⟨x0_0, x0_1⟩ := Blk.q2 (H.out.blk 0 rfl)
        go_wp2_with fail
        refine (l2Copy_any A l c now _ (by omega) (VK.sl (H.out.get 0 rfl))).mono ?_
        rintro e w3 ⟨vk, rfl, hok, hbk⟩
        obtain ⟨Ak, ck, rfl, _, _, _⟩ := hok.sl
        replace H : Hid (SP w [(w.heap.size, 36, #[.int .i64 now, .slice A l.length c]), (w.heap.size + 1, 39, #[.int .i64 t, .slice (some ⟨b, o, none⟩) ws.length c2]), (w.heap.size + 1 + 1, 36, #[.int .i64 0, .slice none 0 0])] [fun W => VK W now A l, fun W => WK W (some ⟨b, o, none⟩) ws, fun W => VK W now Ak l] w3) := Lib.hid (SP.add (H.out.kept hbk) _ VK.c (VK.of hok HN.out.1.1 HN.out.1.2.1 HN.out.1.2.2.1 HN.out.1.2.2.2))
        clear x0_0 x0_1 hbk hok
        obtain ⟨x2_0, x2_1⟩ := Blk.q2 (H.out.blk 2 rfl)
        obtain ⟨z2_0, z2_1⟩ := Blk.z2 (H.out.blk 2 rfl)
        have HZ := Lib.hid (SP.set (SP.set (H.out) 2 0 (.int .i64 now) rfl (by decide)) 2 1 (.slice Ak l.length ck) rfl (by decide))
        clear H
        go_wp2
        refine bodyPost_ret (v := .tuple #[.agg #[.int .i64 now, .slice Ak l.length ck], .int .i64 2]) ?_ rfl (⟨now, Ak, l, ck, 2, rfl, HZ.out.get 2 rfl, by decide, by decide, HZ.out.below⟩)
        simp [results, Tryz.results89, go_sem, x2_0, x2_1]
      go_wp2
      go_roundw
      case rel => exact ⟨k + 1, by omega, by go_num, H⟩
      case measure => simp [intOf]; omega
    obtain rfl : k = ws.length := by omega
    by_cases h0 : ws.length = 0
    case pos =>
      clear x0_0 x0_1 x1_0 x1_1 l0 l1
      have h0i : ((ws.length : Int) == 0) = true := beq_iff_eq.2 (by omega)
      have h0j : (ws.length : Int) = 0 := by omega
      obtain ⟨x1_0, x1_1⟩ := Blk.q2 (H.out.blk 1 rfl)
      obtain ⟨x0_0, x0_1⟩ := Blk.q2 (H.out.blk 0 rfl)
      go_wp2_with fail
      refine (l2Copy_any A l c now _ (by omega) (VK.sl (H.out.get 0 rfl))).mono ?_
      rintro e w3 ⟨vk, rfl, hok, hbk⟩
      obtain ⟨Ak, ck, rfl, _, _, _⟩ := hok.sl
      replace H : Hid (SP w [(w.heap.size, 36, #[.int .i64 now, .slice A l.length c]), (w.heap.size + 1, 39, #[.int .i64 t, .slice A2 ws.length c2]), (w.heap.size + 1 + 1, 36, #[.int .i64 0, .slice none 0 0])] [fun W => VK W now A l, fun W => WK W A2 ws, fun W => VK W now Ak l] w3) := Lib.hid (SP.add (H.out.kept hbk) _ VK.c (VK.of hok HN.out.1.1 HN.out.1.2.1 HN.out.1.2.2.1 HN.out.1.2.2.2))
      clear x1_0 x1_1 x0_0 x0_1 hbk hok
      obtain ⟨x2_0, x2_1⟩ := Blk.q2 (H.out.blk 2 rfl)
      obtain ⟨z2_0, z2_1⟩ := Blk.z2 (H.out.blk 2 rfl)
      have HZ := Lib.hid (SP.set (SP.set (H.out) 2 0 (.int .i64 now) rfl (by decide)) 2 1 (.slice Ak l.length ck) rfl (by decide))
      clear H
      go_wp2
      refine bodyPost_ret (v := .tuple #[.agg #[.int .i64 now, .slice Ak l.length ck], .int .i64 0]) ?_ rfl (⟨now, Ak, l, ck, 0, rfl, HZ.out.get 2 rfl, by decide, by decide, HZ.out.below⟩)
      simp [results, Tryz.results89, go_sem, x2_0, x2_1]
    have h0i : ((ws.length : Int) == 0) = false := beq_eq_false_iff_ne.2 (by omega)
    have h0j : ¬ (ws.length : Int) = 0 := by omega
    go_wp2_with fail
    refine (l2Do_any A A2 l ws c c2 now _ (by omega) (by omega) HN.out.1.2.2.1 (by have := HN.out.1.2.2.2; omega) HN.out.1.1 HN.out.2.1 (VK.sl (H.out.get 0 rfl)) (WK.sl (H.out.get 1 rfl))).mono ?_
    have HD := Lib.hid (doR_ok HN.out.1.1 HN.out.1.2.1 HN.out.1.2.2.1 HN.out.1.2.2.2 HN.out.2.1)
    generalize doR now l ws = r at *
    obtain ⟨⟨nw, L⟩, ok⟩ := r
    rintro e w5 ⟨v5, rfl, ho5, hb5⟩
    simp only at ho5 ⊢
    obtain ⟨A5, c5, rfl, _, _, _⟩ := ho5.sl
    replace H : Hid (SP w [(w.heap.size, 36, #[.int .i64 now, .slice A l.length c]), (w.heap.size + 1, 39, #[.int .i64 t, .slice A2 ws.length c2]), (w.heap.size + 1 + 1, 36, #[.int .i64 0, .slice none 0 0])] [fun W => VK W now A l, fun W => WK W A2 ws, fun W => VK W nw A5 L] w5) := Lib.hid (SP.add (H.out.kept hb5) _ VK.c (VK.of ho5 HD.out.1 HD.out.2.1 HD.out.2.2.1 HD.out.2.2.2))
    clear x0_0 x0_1 x1_0 x1_1 l0 l1 hb5 ho5
    have H := Lib.hid (H.out.alloc 36 #[.int .i64 nw, .slice A5 L.length c5])
    cases ok
    case false =>
      obtain ⟨x0_0, x0_1⟩ := Blk.q2 (H.out.blk 0 rfl)
      go_wp2_with fail
      refine (l2Copy_any A l c now _ (by omega) (VK.sl (H.out.get 0 rfl))).mono ?_
      rintro e w7 ⟨vk, rfl, hok, hbk⟩
      obtain ⟨Ak, ck, rfl, _, _, _⟩ := hok.sl
      replace H : Hid (SP w [(w.heap.size, 36, #[.int .i64 now, .slice A l.length c]), (w.heap.size + 1, 39, #[.int .i64 t, .slice A2 ws.length c2]), (w.heap.size + 1 + 1, 36, #[.int .i64 0, .slice none 0 0]), (w5.heap.size, 36, #[.int .i64 nw, .slice A5 L.length c5])] [fun W => VK W now A l, fun W => WK W A2 ws, fun W => VK W nw A5 L, fun W => VK W now Ak l] w7) := Lib.hid (SP.add (H.out.kept hbk) _ VK.c (VK.of hok HN.out.1.1 HN.out.1.2.1 HN.out.1.2.2.1 HN.out.1.2.2.2))
      clear x0_0 x0_1 hbk hok
      obtain ⟨x2_0, x2_1⟩ := Blk.q2 (H.out.blk 2 rfl)
      obtain ⟨z2_0, z2_1⟩ := Blk.z2 (H.out.blk 2 rfl)
      have HZ := Lib.hid (SP.set (SP.set (H.out) 2 0 (.int .i64 now) rfl (by decide)) 2 1 (.slice Ak l.length ck) rfl (by decide))
      clear H
      go_wp2
      refine bodyPost_ret (v := .tuple #[.agg #[.int .i64 now, .slice Ak l.length ck], .int .i64 3]) ?_ rfl (⟨now, Ak, l, ck, 3, rfl, HZ.out.get 3 rfl, by decide, by decide, HZ.out.below⟩)
      simp [results, Tryz.results89, go_sem, x2_0, x2_1]
    obtain ⟨x2_0, x2_1⟩ := Blk.q2 (H.out.blk 2 rfl)
    obtain ⟨z2_0, z2_1⟩ := Blk.z2 (H.out.blk 2 rfl)
    have HZ := Lib.hid (SP.set (SP.set (H.out) 2 0 (.int .i64 nw) rfl (by decide)) 2 1 (.slice A5 L.length c5) rfl (by decide))
    clear H
    go_wp2
    refine bodyPost_ret (v := .tuple #[.agg #[.int .i64 nw, .slice A5 L.length c5], .int .i64 0]) ?_ rfl (⟨nw, A5, L, c5, 0, rfl, HZ.out.get 2 rfl, by decide, by decide, HZ.out.below⟩)
    simp [results, Tryz.results89, go_sem, x2_0, x2_1]
end Go.Proofs.YtfmhhckkpenldaaGreatDoor
/- The reference's l4Ends: what one does by oneself comes to its end. -/
namespace Go.Proofs.YtfmhhckkpenldaaGreatDoor
open Go.RowKit
/-- a store and a seat come back, and how it ended -/
def VSPost (w : World) (e : Ending) (w' : World) : Prop :=
  ∃ (now' : Int) (A' : Option Addr) (l' : List Ver) (c' : Nat) (on' bad' : Bool) (t' : Int) (A2' : Option Addr) (ws' : List Wri) (c2' : Nat) (d : Int),
    e = .returned (.tuple #[.agg #[.int .i64 now', .slice A' l'.length c'], .agg #[.bool on', .bool bad', .int .i64 t', .slice A2' ws'.length c2'], .int .i64 d]) ∧ VK w' now' A' l' ∧ WK w' A2' ws' ∧ 0 ≤ d ∧ d ≤ 6 ∧ Below w.heap.size w w'
set_option maxRecDepth 100000 in
set_option maxHeartbeats 8000000 in
theorem l4Ends_any (A : Option Addr) (l : List Ver) (c : Nat) (now : Int) (on bad : Bool) (t : Int) (A2 : Option Addr) (ws : List Wri) (c2 : Nat) (kind : Int) (w : World) (hV : VK w now A l) (hW : WK w A2 ws) :
    Calls Tryz.prog 80 #[.agg #[.int .i64 now, .slice A l.length c], .agg #[.bool on, .bool bad, .int .i64 t, .slice A2 ws.length c2], .int .i64 kind] w (VSPost w) := by
  have hbE := allocAll_below w [(36, #[.int .i64 now, .slice A l.length c]), (41, #[.bool on, .bool bad, .int .i64 t, .slice A2 ws.length c2]), (36, #[.int .i64 0, .slice none 0 0]), (41, #[.bool false, .bool false, .int .i64 0, .slice none 0 0]), (41, #[.bool false, .bool false, .int .i64 0, .slice none 0 0])]
  have H : Hid (SP w [(w.heap.size, 36, #[.int .i64 now, .slice A l.length c]), (w.heap.size + 1, 41, #[.bool on, .bool bad, .int .i64 t, .slice A2 ws.length c2]), (w.heap.size + 1 + 1, 36, #[.int .i64 0, .slice none 0 0]), (w.heap.size + 1 + 1 + 1, 41, #[.bool false, .bool false, .int .i64 0, .slice none 0 0]), (w.heap.size + 1 + 1 + 1 + 1, 41, #[.bool false, .bool false, .int .i64 0, .slice none 0 0])] [fun W => VK W now A l, fun W => WK W A2 ws] ((allocAll w [(36, #[.int .i64 now, .slice A l.length c]), (41, #[.bool on, .bool bad, .int .i64 t, .slice A2 ws.length c2]), (36, #[.int .i64 0, .slice none 0 0]), (41, #[.bool false, .bool false, .int .i64 0, .slice none 0 0]), (41, #[.bool false, .bool false, .int .i64 0, .slice none 0 0])]))) := Lib.hid (SP.add (SP.add (SP.start w [(36, #[.int .i64 now, .slice A l.length c]), (41, #[.bool on, .bool bad, .int .i64 t, .slice A2 ws.length c2]), (36, #[.int .i64 0, .slice none 0 0]), (41, #[.bool false, .bool false, .int .i64 0, .slice none 0 0]), (41, #[.bool false, .bool false, .int .i64 0, .slice none 0 0])]) _ VK.c (VK.c _ _ (Kp.below hbE) hV)) _ WK.c (WK.c _ _ (Kp.below hbE) hW))
  clear hbE
  go_enter Tryz.func80, Tryz.ntmps80
  clear hV hW
  obtain ⟨x0_0, x0_1⟩ := Blk.q2 (H.out.blk 0 rfl)
  obtain ⟨x1_0, x1_1, x1_2, x1_3⟩ := Blk.q4 (H.out.blk 1 rfl)
  obtain ⟨x2_0, x2_1⟩ := Blk.q2 (H.out.blk 2 rfl)
  obtain ⟨x3_0, x3_1, x3_2, x3_3⟩ := Blk.q4 (H.out.blk 3 rfl)
  obtain ⟨x4_0, x4_1, x4_2, x4_3⟩ := Blk.q4 (H.out.blk 4 rfl)
  have z2_0 := (H.out.blk 2 rfl).frozen 0
  have z2_1 := (H.out.blk 2 rfl).frozen 1
  have z3_0 := (H.out.blk 3 rfl).frozen 0
  have z3_1 := (H.out.blk 3 rfl).frozen 1
  have z3_2 := (H.out.blk 3 rfl).frozen 2
  have z3_3 := (H.out.blk 3 rfl).frozen 3
  cases on
  case false =>
    go_wp2_with fail
    change Code.wp _ _ _ _ (allocAll w [(36, #[.int .i64 now, .slice A l.length c]), (41, #[.bool false, .bool bad, .int .i64 t, .slice A2 ws.length c2]), (36, #[.int .i64 0, .slice none 0 0]), (41, #[.bool false, .bool false, .int .i64 0, .slice none 0 0]), (41, #[.bool false, .bool false, .int .i64 0, .slice none 0 0])])
    generalize (allocAll w [(36, #[.int .i64 now, .slice A l.length c]), (41, #[.bool false, .bool bad, .int .i64 t, .slice A2 ws.length c2]), (36, #[.int .i64 0, .slice none 0 0]), (41, #[.bool false, .bool false, .int .i64 0, .slice none 0 0]), (41, #[.bool false, .bool false, .int .i64 0, .slice none 0 0])]) = w0 at *
    go_region
    all_goals
      go_wp2
      first
      | (have HZ := Lib.hid (SP.kept (SP.set (SP.set (SP.set (SP.set (SP.set (SP.set (H.out) 2 0 (.int .i64 now) rfl (by decide)) 2 1 (.slice A l.length c) rfl (by decide)) 3 0 (.bool false) rfl (by decide)) 3 1 (.bool bad) rfl (by decide)) 3 2 (.int .i64 t) rfl (by decide)) 3 3 (.slice A2 ws.length c2) rfl (by decide)) (kD _)); refine bodyPost_ret (v := .tuple #[.agg #[.int .i64 now, .slice A l.length c], .agg #[.bool false, .bool bad, .int .i64 t, .slice A2 ws.length c2], .int .i64 4]) ?_ rfl (⟨now, A, l, c, false, bad, t, A2, ws, c2, 4, rfl, HZ.out.get 0 rfl, HZ.out.get 1 rfl, by decide, by decide, HZ.out.below⟩); (simp [results, Tryz.results80, go_sem, x2_0, x2_1, x3_0, x3_1, x3_2, x3_3]; done))
  by_cases h9 : kind = 9
  case pos =>
    subst h9
    go_wp2_with fail
    change Code.wp _ _ _ _ (allocAll w [(36, #[.int .i64 now, .slice A l.length c]), (41, #[.bool true, .bool bad, .int .i64 t, .slice A2 ws.length c2]), (36, #[.int .i64 0, .slice none 0 0]), (41, #[.bool false, .bool false, .int .i64 0, .slice none 0 0]), (41, #[.bool false, .bool false, .int .i64 0, .slice none 0 0])])
    generalize (allocAll w [(36, #[.int .i64 now, .slice A l.length c]), (41, #[.bool true, .bool bad, .int .i64 t, .slice A2 ws.length c2]), (36, #[.int .i64 0, .slice none 0 0]), (41, #[.bool false, .bool false, .int .i64 0, .slice none 0 0]), (41, #[.bool false, .bool false, .int .i64 0, .slice none 0 0])]) = w0 at *
    go_region
    all_goals
      go_wp2
      first
      | (have HZ := Lib.hid (SP.kept (SP.set (SP.set (SP.set (SP.set (SP.set (SP.set (H.out) 2 0 (.int .i64 now) rfl (by decide)) 2 1 (.slice A l.length c) rfl (by decide)) 3 0 (.bool false) rfl (by decide)) 3 1 (.bool false) rfl (by decide)) 3 2 (.int .i64 0) rfl (by decide)) 3 3 (.slice none 0 0) rfl (by decide)) (kD _)); refine bodyPost_ret (v := .tuple #[.agg #[.int .i64 now, .slice A l.length c], .agg #[.bool false, .bool false, .int .i64 0, .slice none 0 0], .int .i64 0]) ?_ rfl (⟨now, A, l, c, false, false, 0, none, [], 0, 0, rfl, HZ.out.get 0 rfl, WK.nil _ _, by decide, by decide, HZ.out.below⟩); (simp [results, Tryz.results80, go_sem, x2_0, x2_1, x3_0, x3_1, x3_2, x3_3]; done))
  have e9 : (kind == 9) = false := beq_eq_false_iff_ne.2 h9
  cases bad
  case true =>
    go_wp2_with fail
    change Code.wp _ _ _ _ (allocAll w [(36, #[.int .i64 now, .slice A l.length c]), (41, #[.bool true, .bool true, .int .i64 t, .slice A2 ws.length c2]), (36, #[.int .i64 0, .slice none 0 0]), (41, #[.bool false, .bool false, .int .i64 0, .slice none 0 0]), (41, #[.bool false, .bool false, .int .i64 0, .slice none 0 0])])
    generalize (allocAll w [(36, #[.int .i64 now, .slice A l.length c]), (41, #[.bool true, .bool true, .int .i64 t, .slice A2 ws.length c2]), (36, #[.int .i64 0, .slice none 0 0]), (41, #[.bool false, .bool false, .int .i64 0, .slice none 0 0]), (41, #[.bool false, .bool false, .int .i64 0, .slice none 0 0])]) = w0 at *
    go_region
    all_goals
      go_wp2
      first
      | (have HZ := Lib.hid (SP.kept (SP.set (SP.set (SP.set (SP.set (SP.set (SP.set (H.out) 2 0 (.int .i64 now) rfl (by decide)) 2 1 (.slice A l.length c) rfl (by decide)) 3 0 (.bool false) rfl (by decide)) 3 1 (.bool false) rfl (by decide)) 3 2 (.int .i64 0) rfl (by decide)) 3 3 (.slice none 0 0) rfl (by decide)) (kD _)); refine bodyPost_ret (v := .tuple #[.agg #[.int .i64 now, .slice A l.length c], .agg #[.bool false, .bool false, .int .i64 0, .slice none 0 0], .int .i64 5]) ?_ rfl (⟨now, A, l, c, false, false, 0, none, [], 0, 5, rfl, HZ.out.get 0 rfl, WK.nil _ _, by decide, by decide, HZ.out.below⟩); (simp [results, Tryz.results80, go_sem, x2_0, x2_1, x3_0, x3_1, x3_2, x3_3]; done))
  go_wp2_with fail
  change Calls _ _ _ (allocAll w [(36, #[.int .i64 now, .slice A l.length c]), (41, #[.bool true, .bool false, .int .i64 t, .slice A2 ws.length c2]), (36, #[.int .i64 0, .slice none 0 0]), (41, #[.bool false, .bool false, .int .i64 0, .slice none 0 0]), (41, #[.bool false, .bool false, .int .i64 0, .slice none 0 0])]) _
  generalize (allocAll w [(36, #[.int .i64 now, .slice A l.length c]), (41, #[.bool true, .bool false, .int .i64 t, .slice A2 ws.length c2]), (36, #[.int .i64 0, .slice none 0 0]), (41, #[.bool false, .bool false, .int .i64 0, .slice none 0 0]), (41, #[.bool false, .bool false, .int .i64 0, .slice none 0 0])]) = w0 at *
  refine (workEnd_any A l c now t A2 ws c2 w0 (H.out.get 0 rfl) (H.out.get 1 rfl)).mono ?_
  rintro e w1 ⟨nw, A5, L, c5, d, rfl, hVL, hd0, hd1, hb1⟩
  replace H : Hid (SP w [(w.heap.size, 36, #[.int .i64 now, .slice A l.length c]), (w.heap.size + 1, 41, #[.bool true, .bool false, .int .i64 t, .slice A2 ws.length c2]), (w.heap.size + 1 + 1, 36, #[.int .i64 0, .slice none 0 0]), (w.heap.size + 1 + 1 + 1, 41, #[.bool false, .bool false, .int .i64 0, .slice none 0 0]), (w.heap.size + 1 + 1 + 1 + 1, 41, #[.bool false, .bool false, .int .i64 0, .slice none 0 0])] [fun W => VK W now A l, fun W => WK W A2 ws, fun W => VK W nw A5 L] w1) := Lib.hid (SP.add (H.out.kept hb1) _ VK.c (hVL))
  clear x0_0 x0_1 x1_0 x1_1 x1_2 x1_3 x2_0 x2_1 x3_0 x3_1 x3_2 x3_3 x4_0 x4_1 x4_2 x4_3 hb1 hVL
  have H := Lib.hid (H.out.alloc 36 #[.int .i64 nw, .slice A5 L.length c5])
  obtain ⟨x2_0, x2_1⟩ := Blk.q2 (H.out.blk 2 rfl)
  obtain ⟨x3_0, x3_1, x3_2, x3_3⟩ := Blk.q4 (H.out.blk 3 rfl)
  obtain ⟨x4_0, x4_1, x4_2, x4_3⟩ := Blk.q4 (H.out.blk 4 rfl)
  obtain ⟨z2_0, z2_1⟩ := Blk.z2 (H.out.blk 2 rfl)
  obtain ⟨z3_0, z3_1, z3_2, z3_3⟩ := Blk.z4 (H.out.blk 3 rfl)
  have HD := Lib.hid (show 0 ≤ d ∧ d ≤ 6 by omega)
  clear hd0 hd1
  go_wp2_with fail
  go_region
  all_goals
    go_wp2
    first
    | (have HZ := Lib.hid (SP.kept (SP.set (SP.set (SP.set (SP.set (SP.set (SP.set (H.out) 2 0 (.int .i64 nw) rfl (by decide)) 2 1 (.slice A5 L.length c5) rfl (by decide)) 3 0 (.bool false) rfl (by decide)) 3 1 (.bool false) rfl (by decide)) 3 2 (.int .i64 0) rfl (by decide)) 3 3 (.slice none 0 0) rfl (by decide)) (kD _)); refine bodyPost_ret (v := .tuple #[.agg #[.int .i64 nw, .slice A5 L.length c5], .agg #[.bool false, .bool false, .int .i64 0, .slice none 0 0], .int .i64 d]) ?_ rfl (⟨nw, A5, L, c5, false, false, 0, none, [], 0, d, rfl, HZ.out.get 2 rfl, WK.nil _ _, HD.out.1, HD.out.2, HZ.out.below⟩); (simp [results, Tryz.results80, go_sem, x2_0, x2_1, x3_0, x3_1, x3_2, x3_3]; done))
end Go.Proofs.YtfmhhckkpenldaaGreatDoor
