import Derived.Deep.RegionHeld3
import Derived.Deep.RegionWith
import Derived.BigQuiet
import Derived.Test.YtpjkcmmmpgncmaaM11
import Derived.Test.YtpjkcmmmpgncmaaL4W
/- The reference's l4Ends: what one does by oneself comes to its end. -/
namespace Go.Proofs.Ytpjkcmmmpgncmaa
open Go.RowKit
/-- a store and a seat come back, and how it ended -/
def VSPost (w : World) (e : Ending) (w' : World) : Prop :=
  ∃ (now' : Int) (A' : Option Addr) (l' : List Ver) (c' : Nat) (on' bad' : Bool) (t' : Int) (A2' : Option Addr) (ws' : List Wri) (c2' : Nat) (d : Int),
    e = .returned (.tuple #[.agg #[.int .i64 now', .slice A' l'.length c'], .agg #[.bool on', .bool bad', .int .i64 t', .slice A2' ws'.length c2'], .int .i64 d]) ∧ VK w' now' A' l' ∧ WK w' A2' ws' ∧ 0 ≤ d ∧ d ≤ 6 ∧ Below w.heap.size w w'
set_option maxRecDepth 100000 in
set_option maxHeartbeats 8000000 in
theorem l4Ends_any (A : Option Addr) (l : List Ver) (c : Nat) (now : Int) (on bad : Bool) (t : Int) (A2 : Option Addr) (ws : List Wri) (c2 : Nat) (kind : Int) (w : World) (hV : VK w now A l) (hW : WK w A2 ws) :
    Calls Try.prog 214 #[.agg #[.int .i64 now, .slice A l.length c], .agg #[.bool on, .bool bad, .int .i64 t, .slice A2 ws.length c2], .int .i64 kind] w (VSPost w) := by
  have hbE := allocAll_below w [(32, #[.int .i64 now, .slice A l.length c]), (78, #[.bool on, .bool bad, .int .i64 t, .slice A2 ws.length c2]), (32, #[.int .i64 0, .slice none 0 0]), (78, #[.bool false, .bool false, .int .i64 0, .slice none 0 0]), (78, #[.bool false, .bool false, .int .i64 0, .slice none 0 0])]
  have H : Hid (SP w [(w.heap.size, 32, #[.int .i64 now, .slice A l.length c]), (w.heap.size + 1, 78, #[.bool on, .bool bad, .int .i64 t, .slice A2 ws.length c2]), (w.heap.size + 1 + 1, 32, #[.int .i64 0, .slice none 0 0]), (w.heap.size + 1 + 1 + 1, 78, #[.bool false, .bool false, .int .i64 0, .slice none 0 0]), (w.heap.size + 1 + 1 + 1 + 1, 78, #[.bool false, .bool false, .int .i64 0, .slice none 0 0])] [fun W => VK W now A l, fun W => WK W A2 ws] ((allocAll w [(32, #[.int .i64 now, .slice A l.length c]), (78, #[.bool on, .bool bad, .int .i64 t, .slice A2 ws.length c2]), (32, #[.int .i64 0, .slice none 0 0]), (78, #[.bool false, .bool false, .int .i64 0, .slice none 0 0]), (78, #[.bool false, .bool false, .int .i64 0, .slice none 0 0])]))) := Lib.hid (SP.add (SP.add (SP.start w [(32, #[.int .i64 now, .slice A l.length c]), (78, #[.bool on, .bool bad, .int .i64 t, .slice A2 ws.length c2]), (32, #[.int .i64 0, .slice none 0 0]), (78, #[.bool false, .bool false, .int .i64 0, .slice none 0 0]), (78, #[.bool false, .bool false, .int .i64 0, .slice none 0 0])]) _ VK.c (VK.c _ _ (Kp.below hbE) hV)) _ WK.c (WK.c _ _ (Kp.below hbE) hW))
  clear hbE
  go_enter Try.func214, Try.ntmps214
  clear hV hW
  have x0_0 : (allocAll w [(32, #[.int .i64 now, .slice A l.length c]), (78, #[.bool on, .bool bad, .int .i64 t, .slice A2 ws.length c2]), (32, #[.int .i64 0, .slice none 0 0]), (78, #[.bool false, .bool false, .int .i64 0, .slice none 0 0]), (78, #[.bool false, .bool false, .int .i64 0, .slice none 0 0])]).cell? ⟨w.heap.size, 0, none⟩ = some (.int .i64 now) := (H.out.blk 0 rfl).cell 0
  have x0_1 : (allocAll w [(32, #[.int .i64 now, .slice A l.length c]), (78, #[.bool on, .bool bad, .int .i64 t, .slice A2 ws.length c2]), (32, #[.int .i64 0, .slice none 0 0]), (78, #[.bool false, .bool false, .int .i64 0, .slice none 0 0]), (78, #[.bool false, .bool false, .int .i64 0, .slice none 0 0])]).cell? ⟨w.heap.size, 1, none⟩ = some (.slice A l.length c) := (H.out.blk 0 rfl).cell 1
  have x1_0 : (allocAll w [(32, #[.int .i64 now, .slice A l.length c]), (78, #[.bool on, .bool bad, .int .i64 t, .slice A2 ws.length c2]), (32, #[.int .i64 0, .slice none 0 0]), (78, #[.bool false, .bool false, .int .i64 0, .slice none 0 0]), (78, #[.bool false, .bool false, .int .i64 0, .slice none 0 0])]).cell? ⟨w.heap.size + 1, 0, none⟩ = some (.bool on) := (H.out.blk 1 rfl).cell 0
  have x1_1 : (allocAll w [(32, #[.int .i64 now, .slice A l.length c]), (78, #[.bool on, .bool bad, .int .i64 t, .slice A2 ws.length c2]), (32, #[.int .i64 0, .slice none 0 0]), (78, #[.bool false, .bool false, .int .i64 0, .slice none 0 0]), (78, #[.bool false, .bool false, .int .i64 0, .slice none 0 0])]).cell? ⟨w.heap.size + 1, 1, none⟩ = some (.bool bad) := (H.out.blk 1 rfl).cell 1
  have x1_2 : (allocAll w [(32, #[.int .i64 now, .slice A l.length c]), (78, #[.bool on, .bool bad, .int .i64 t, .slice A2 ws.length c2]), (32, #[.int .i64 0, .slice none 0 0]), (78, #[.bool false, .bool false, .int .i64 0, .slice none 0 0]), (78, #[.bool false, .bool false, .int .i64 0, .slice none 0 0])]).cell? ⟨w.heap.size + 1, 2, none⟩ = some (.int .i64 t) := (H.out.blk 1 rfl).cell 2
  have x1_3 : (allocAll w [(32, #[.int .i64 now, .slice A l.length c]), (78, #[.bool on, .bool bad, .int .i64 t, .slice A2 ws.length c2]), (32, #[.int .i64 0, .slice none 0 0]), (78, #[.bool false, .bool false, .int .i64 0, .slice none 0 0]), (78, #[.bool false, .bool false, .int .i64 0, .slice none 0 0])]).cell? ⟨w.heap.size + 1, 3, none⟩ = some (.slice A2 ws.length c2) := (H.out.blk 1 rfl).cell 3
  have x2_0 : (allocAll w [(32, #[.int .i64 now, .slice A l.length c]), (78, #[.bool on, .bool bad, .int .i64 t, .slice A2 ws.length c2]), (32, #[.int .i64 0, .slice none 0 0]), (78, #[.bool false, .bool false, .int .i64 0, .slice none 0 0]), (78, #[.bool false, .bool false, .int .i64 0, .slice none 0 0])]).cell? ⟨w.heap.size + 1 + 1, 0, none⟩ = some (.int .i64 0) := (H.out.blk 2 rfl).cell 0
  have x2_1 : (allocAll w [(32, #[.int .i64 now, .slice A l.length c]), (78, #[.bool on, .bool bad, .int .i64 t, .slice A2 ws.length c2]), (32, #[.int .i64 0, .slice none 0 0]), (78, #[.bool false, .bool false, .int .i64 0, .slice none 0 0]), (78, #[.bool false, .bool false, .int .i64 0, .slice none 0 0])]).cell? ⟨w.heap.size + 1 + 1, 1, none⟩ = some (.slice none 0 0) := (H.out.blk 2 rfl).cell 1
  have x3_0 : (allocAll w [(32, #[.int .i64 now, .slice A l.length c]), (78, #[.bool on, .bool bad, .int .i64 t, .slice A2 ws.length c2]), (32, #[.int .i64 0, .slice none 0 0]), (78, #[.bool false, .bool false, .int .i64 0, .slice none 0 0]), (78, #[.bool false, .bool false, .int .i64 0, .slice none 0 0])]).cell? ⟨w.heap.size + 1 + 1 + 1, 0, none⟩ = some (.bool false) := (H.out.blk 3 rfl).cell 0
  have x3_1 : (allocAll w [(32, #[.int .i64 now, .slice A l.length c]), (78, #[.bool on, .bool bad, .int .i64 t, .slice A2 ws.length c2]), (32, #[.int .i64 0, .slice none 0 0]), (78, #[.bool false, .bool false, .int .i64 0, .slice none 0 0]), (78, #[.bool false, .bool false, .int .i64 0, .slice none 0 0])]).cell? ⟨w.heap.size + 1 + 1 + 1, 1, none⟩ = some (.bool false) := (H.out.blk 3 rfl).cell 1
  have x3_2 : (allocAll w [(32, #[.int .i64 now, .slice A l.length c]), (78, #[.bool on, .bool bad, .int .i64 t, .slice A2 ws.length c2]), (32, #[.int .i64 0, .slice none 0 0]), (78, #[.bool false, .bool false, .int .i64 0, .slice none 0 0]), (78, #[.bool false, .bool false, .int .i64 0, .slice none 0 0])]).cell? ⟨w.heap.size + 1 + 1 + 1, 2, none⟩ = some (.int .i64 0) := (H.out.blk 3 rfl).cell 2
  have x3_3 : (allocAll w [(32, #[.int .i64 now, .slice A l.length c]), (78, #[.bool on, .bool bad, .int .i64 t, .slice A2 ws.length c2]), (32, #[.int .i64 0, .slice none 0 0]), (78, #[.bool false, .bool false, .int .i64 0, .slice none 0 0]), (78, #[.bool false, .bool false, .int .i64 0, .slice none 0 0])]).cell? ⟨w.heap.size + 1 + 1 + 1, 3, none⟩ = some (.slice none 0 0) := (H.out.blk 3 rfl).cell 3
  have x4_0 : (allocAll w [(32, #[.int .i64 now, .slice A l.length c]), (78, #[.bool on, .bool bad, .int .i64 t, .slice A2 ws.length c2]), (32, #[.int .i64 0, .slice none 0 0]), (78, #[.bool false, .bool false, .int .i64 0, .slice none 0 0]), (78, #[.bool false, .bool false, .int .i64 0, .slice none 0 0])]).cell? ⟨w.heap.size + 1 + 1 + 1 + 1, 0, none⟩ = some (.bool false) := (H.out.blk 4 rfl).cell 0
  have x4_1 : (allocAll w [(32, #[.int .i64 now, .slice A l.length c]), (78, #[.bool on, .bool bad, .int .i64 t, .slice A2 ws.length c2]), (32, #[.int .i64 0, .slice none 0 0]), (78, #[.bool false, .bool false, .int .i64 0, .slice none 0 0]), (78, #[.bool false, .bool false, .int .i64 0, .slice none 0 0])]).cell? ⟨w.heap.size + 1 + 1 + 1 + 1, 1, none⟩ = some (.bool false) := (H.out.blk 4 rfl).cell 1
  have x4_2 : (allocAll w [(32, #[.int .i64 now, .slice A l.length c]), (78, #[.bool on, .bool bad, .int .i64 t, .slice A2 ws.length c2]), (32, #[.int .i64 0, .slice none 0 0]), (78, #[.bool false, .bool false, .int .i64 0, .slice none 0 0]), (78, #[.bool false, .bool false, .int .i64 0, .slice none 0 0])]).cell? ⟨w.heap.size + 1 + 1 + 1 + 1, 2, none⟩ = some (.int .i64 0) := (H.out.blk 4 rfl).cell 2
  have x4_3 : (allocAll w [(32, #[.int .i64 now, .slice A l.length c]), (78, #[.bool on, .bool bad, .int .i64 t, .slice A2 ws.length c2]), (32, #[.int .i64 0, .slice none 0 0]), (78, #[.bool false, .bool false, .int .i64 0, .slice none 0 0]), (78, #[.bool false, .bool false, .int .i64 0, .slice none 0 0])]).cell? ⟨w.heap.size + 1 + 1 + 1 + 1, 3, none⟩ = some (.slice none 0 0) := (H.out.blk 4 rfl).cell 3
  have z2_0 := (H.out.blk 2 rfl).frozen 0
  have z2_1 := (H.out.blk 2 rfl).frozen 1
  have z3_0 := (H.out.blk 3 rfl).frozen 0
  have z3_1 := (H.out.blk 3 rfl).frozen 1
  have z3_2 := (H.out.blk 3 rfl).frozen 2
  have z3_3 := (H.out.blk 3 rfl).frozen 3
  cases on
  case false =>
    go_wp2_with fail
    change Code.wp _ _ _ _ (allocAll w [(32, #[.int .i64 now, .slice A l.length c]), (78, #[.bool false, .bool bad, .int .i64 t, .slice A2 ws.length c2]), (32, #[.int .i64 0, .slice none 0 0]), (78, #[.bool false, .bool false, .int .i64 0, .slice none 0 0]), (78, #[.bool false, .bool false, .int .i64 0, .slice none 0 0])])
    generalize (allocAll w [(32, #[.int .i64 now, .slice A l.length c]), (78, #[.bool false, .bool bad, .int .i64 t, .slice A2 ws.length c2]), (32, #[.int .i64 0, .slice none 0 0]), (78, #[.bool false, .bool false, .int .i64 0, .slice none 0 0]), (78, #[.bool false, .bool false, .int .i64 0, .slice none 0 0])]) = w0 at *
    go_region
    all_goals
      go_wp2
      first
      | (have HZ := Lib.hid (SP.kept (SP.set (SP.set (SP.set (SP.set (SP.set (SP.set (H.out) 2 0 (.int .i64 now) rfl (by decide)) 2 1 (.slice A l.length c) rfl (by decide)) 3 0 (.bool false) rfl (by decide)) 3 1 (.bool bad) rfl (by decide)) 3 2 (.int .i64 t) rfl (by decide)) 3 3 (.slice A2 ws.length c2) rfl (by decide)) (kD _)); refine bodyPost_ret (v := .tuple #[.agg #[.int .i64 now, .slice A l.length c], .agg #[.bool false, .bool bad, .int .i64 t, .slice A2 ws.length c2], .int .i64 4]) ?_ rfl (⟨now, A, l, c, false, bad, t, A2, ws, c2, 4, rfl, HZ.out.get 0 rfl, HZ.out.get 1 rfl, by decide, by decide, HZ.out.below⟩); (simp [results, Try.results214, go_sem, x2_0, x2_1, x3_0, x3_1, x3_2, x3_3]; done))
  by_cases h9 : kind = 9
  case pos =>
    subst h9
    go_wp2_with fail
    change Code.wp _ _ _ _ (allocAll w [(32, #[.int .i64 now, .slice A l.length c]), (78, #[.bool true, .bool bad, .int .i64 t, .slice A2 ws.length c2]), (32, #[.int .i64 0, .slice none 0 0]), (78, #[.bool false, .bool false, .int .i64 0, .slice none 0 0]), (78, #[.bool false, .bool false, .int .i64 0, .slice none 0 0])])
    generalize (allocAll w [(32, #[.int .i64 now, .slice A l.length c]), (78, #[.bool true, .bool bad, .int .i64 t, .slice A2 ws.length c2]), (32, #[.int .i64 0, .slice none 0 0]), (78, #[.bool false, .bool false, .int .i64 0, .slice none 0 0]), (78, #[.bool false, .bool false, .int .i64 0, .slice none 0 0])]) = w0 at *
    go_region
    all_goals
      go_wp2
      first
      | (have HZ := Lib.hid (SP.kept (SP.set (SP.set (SP.set (SP.set (SP.set (SP.set (H.out) 2 0 (.int .i64 now) rfl (by decide)) 2 1 (.slice A l.length c) rfl (by decide)) 3 0 (.bool false) rfl (by decide)) 3 1 (.bool false) rfl (by decide)) 3 2 (.int .i64 0) rfl (by decide)) 3 3 (.slice none 0 0) rfl (by decide)) (kD _)); refine bodyPost_ret (v := .tuple #[.agg #[.int .i64 now, .slice A l.length c], .agg #[.bool false, .bool false, .int .i64 0, .slice none 0 0], .int .i64 0]) ?_ rfl (⟨now, A, l, c, false, false, 0, none, [], 0, 0, rfl, HZ.out.get 0 rfl, WK.nil _ _, by decide, by decide, HZ.out.below⟩); (simp [results, Try.results214, go_sem, x2_0, x2_1, x3_0, x3_1, x3_2, x3_3]; done))
  have e9 : (kind == 9) = false := beq_eq_false_iff_ne.2 h9
  cases bad
  case true =>
    go_wp2_with fail
    change Code.wp _ _ _ _ (allocAll w [(32, #[.int .i64 now, .slice A l.length c]), (78, #[.bool true, .bool true, .int .i64 t, .slice A2 ws.length c2]), (32, #[.int .i64 0, .slice none 0 0]), (78, #[.bool false, .bool false, .int .i64 0, .slice none 0 0]), (78, #[.bool false, .bool false, .int .i64 0, .slice none 0 0])])
    generalize (allocAll w [(32, #[.int .i64 now, .slice A l.length c]), (78, #[.bool true, .bool true, .int .i64 t, .slice A2 ws.length c2]), (32, #[.int .i64 0, .slice none 0 0]), (78, #[.bool false, .bool false, .int .i64 0, .slice none 0 0]), (78, #[.bool false, .bool false, .int .i64 0, .slice none 0 0])]) = w0 at *
    go_region
    all_goals
      go_wp2
      first
      | (have HZ := Lib.hid (SP.kept (SP.set (SP.set (SP.set (SP.set (SP.set (SP.set (H.out) 2 0 (.int .i64 now) rfl (by decide)) 2 1 (.slice A l.length c) rfl (by decide)) 3 0 (.bool false) rfl (by decide)) 3 1 (.bool false) rfl (by decide)) 3 2 (.int .i64 0) rfl (by decide)) 3 3 (.slice none 0 0) rfl (by decide)) (kD _)); refine bodyPost_ret (v := .tuple #[.agg #[.int .i64 now, .slice A l.length c], .agg #[.bool false, .bool false, .int .i64 0, .slice none 0 0], .int .i64 5]) ?_ rfl (⟨now, A, l, c, false, false, 0, none, [], 0, 5, rfl, HZ.out.get 0 rfl, WK.nil _ _, by decide, by decide, HZ.out.below⟩); (simp [results, Try.results214, go_sem, x2_0, x2_1, x3_0, x3_1, x3_2, x3_3]; done))
  go_wp2_with fail
  change Calls _ _ _ (allocAll w [(32, #[.int .i64 now, .slice A l.length c]), (78, #[.bool true, .bool false, .int .i64 t, .slice A2 ws.length c2]), (32, #[.int .i64 0, .slice none 0 0]), (78, #[.bool false, .bool false, .int .i64 0, .slice none 0 0]), (78, #[.bool false, .bool false, .int .i64 0, .slice none 0 0])]) _
  generalize (allocAll w [(32, #[.int .i64 now, .slice A l.length c]), (78, #[.bool true, .bool false, .int .i64 t, .slice A2 ws.length c2]), (32, #[.int .i64 0, .slice none 0 0]), (78, #[.bool false, .bool false, .int .i64 0, .slice none 0 0]), (78, #[.bool false, .bool false, .int .i64 0, .slice none 0 0])]) = w0 at *
  refine (workEnd_any A l c now t A2 ws c2 w0 (H.out.get 0 rfl) (H.out.get 1 rfl)).mono ?_
  rintro e w1 ⟨nw, A5, L, c5, d, rfl, hVL, hd0, hd1, hb1⟩
  have H : Hid (SP w [(w.heap.size, 32, #[.int .i64 now, .slice A l.length c]), (w.heap.size + 1, 78, #[.bool true, .bool false, .int .i64 t, .slice A2 ws.length c2]), (w.heap.size + 1 + 1, 32, #[.int .i64 0, .slice none 0 0]), (w.heap.size + 1 + 1 + 1, 78, #[.bool false, .bool false, .int .i64 0, .slice none 0 0]), (w.heap.size + 1 + 1 + 1 + 1, 78, #[.bool false, .bool false, .int .i64 0, .slice none 0 0])] [fun W => VK W now A l, fun W => WK W A2 ws, fun W => VK W nw A5 L] w1) := Lib.hid (SP.add (H.out.kept hb1) _ VK.c (hVL))
  clear x0_0 x0_1 x1_0 x1_1 x1_2 x1_3 x2_0 x2_1 x3_0 x3_1 x3_2 x3_3 x4_0 x4_1 x4_2 x4_3 hb1 hVL
  have H := Lib.hid (H.out.alloc 32 #[.int .i64 nw, .slice A5 L.length c5])
  have x2_0 : (w1.alloc (.cells #[.int .i64 nw, .slice A5 L.length c5] 32)).cell? ⟨w.heap.size + 1 + 1, 0, none⟩ = some (.int .i64 0) := (H.out.blk 2 rfl).cell 0
  have x2_1 : (w1.alloc (.cells #[.int .i64 nw, .slice A5 L.length c5] 32)).cell? ⟨w.heap.size + 1 + 1, 1, none⟩ = some (.slice none 0 0) := (H.out.blk 2 rfl).cell 1
  have x3_0 : (w1.alloc (.cells #[.int .i64 nw, .slice A5 L.length c5] 32)).cell? ⟨w.heap.size + 1 + 1 + 1, 0, none⟩ = some (.bool false) := (H.out.blk 3 rfl).cell 0
  have x3_1 : (w1.alloc (.cells #[.int .i64 nw, .slice A5 L.length c5] 32)).cell? ⟨w.heap.size + 1 + 1 + 1, 1, none⟩ = some (.bool false) := (H.out.blk 3 rfl).cell 1
  have x3_2 : (w1.alloc (.cells #[.int .i64 nw, .slice A5 L.length c5] 32)).cell? ⟨w.heap.size + 1 + 1 + 1, 2, none⟩ = some (.int .i64 0) := (H.out.blk 3 rfl).cell 2
  have x3_3 : (w1.alloc (.cells #[.int .i64 nw, .slice A5 L.length c5] 32)).cell? ⟨w.heap.size + 1 + 1 + 1, 3, none⟩ = some (.slice none 0 0) := (H.out.blk 3 rfl).cell 3
  have x4_0 : (w1.alloc (.cells #[.int .i64 nw, .slice A5 L.length c5] 32)).cell? ⟨w.heap.size + 1 + 1 + 1 + 1, 0, none⟩ = some (.bool false) := (H.out.blk 4 rfl).cell 0
  have x4_1 : (w1.alloc (.cells #[.int .i64 nw, .slice A5 L.length c5] 32)).cell? ⟨w.heap.size + 1 + 1 + 1 + 1, 1, none⟩ = some (.bool false) := (H.out.blk 4 rfl).cell 1
  have x4_2 : (w1.alloc (.cells #[.int .i64 nw, .slice A5 L.length c5] 32)).cell? ⟨w.heap.size + 1 + 1 + 1 + 1, 2, none⟩ = some (.int .i64 0) := (H.out.blk 4 rfl).cell 2
  have x4_3 : (w1.alloc (.cells #[.int .i64 nw, .slice A5 L.length c5] 32)).cell? ⟨w.heap.size + 1 + 1 + 1 + 1, 3, none⟩ = some (.slice none 0 0) := (H.out.blk 4 rfl).cell 3
  have z2_0 := (H.out.blk 2 rfl).frozen 0
  have z2_1 := (H.out.blk 2 rfl).frozen 1
  have z3_0 := (H.out.blk 3 rfl).frozen 0
  have z3_1 := (H.out.blk 3 rfl).frozen 1
  have z3_2 := (H.out.blk 3 rfl).frozen 2
  have z3_3 := (H.out.blk 3 rfl).frozen 3
  have HD := Lib.hid (show 0 ≤ d ∧ d ≤ 6 by omega)
  clear hd0 hd1
  go_wp2_with fail
  go_region
  all_goals
    go_wp2
    first
    | (have HZ := Lib.hid (SP.kept (SP.set (SP.set (SP.set (SP.set (SP.set (SP.set (H.out) 2 0 (.int .i64 nw) rfl (by decide)) 2 1 (.slice A5 L.length c5) rfl (by decide)) 3 0 (.bool false) rfl (by decide)) 3 1 (.bool false) rfl (by decide)) 3 2 (.int .i64 0) rfl (by decide)) 3 3 (.slice none 0 0) rfl (by decide)) (kD _)); refine bodyPost_ret (v := .tuple #[.agg #[.int .i64 nw, .slice A5 L.length c5], .agg #[.bool false, .bool false, .int .i64 0, .slice none 0 0], .int .i64 d]) ?_ rfl (⟨nw, A5, L, c5, false, false, 0, none, [], 0, d, rfl, HZ.out.get 2 rfl, WK.nil _ _, HD.out.1, HD.out.2, HZ.out.below⟩); (simp [results, Try.results214, go_sem, x2_0, x2_1, x3_0, x3_1, x3_2, x3_3]; done))
end Go.Proofs.Ytpjkcmmmpgncmaa
