import Derived.Deep.RegionHeld3
import Derived.Deep.RegionWith
import Derived.BigQuiet
import Derived.Test.YtpjkcmmmpgncmaaL4N
import Derived.Test.YtpjkcmmmpgncmaaM12
/- The reference's l4Do: what one asks is done. -/
namespace Go.Proofs.Ytpjkcmmmpgncmaa
open Go.RowKit
theorem RK.nil (W : World) (A : Option Addr) : RK W A [] 0 := ⟨SlK.nil _ _, fun y h => absurd h (by simp), Nat.le_refl _, Nat.zero_le _⟩
/-- how l4Do leaves -/
def DoP (w : World) (e : Ending) (w' : World) : Prop :=
  ∃ (now' : Int) (A' : Option Addr) (l' : List Ver) (c' : Nat) (on' bad' : Bool) (t' : Int) (A2' : Option Addr) (ws' : List Wri) (c2' : Nat) (A3 : Option Addr) (rs : List Row) (c3 : Nat) (d : Int),
    e = .returned (.tuple #[.agg #[.int .i64 now', .slice A' l'.length c'], .agg #[.bool on', .bool bad', .int .i64 t', .slice A2' ws'.length c2'], .slice A3 rs.length c3, .int .i64 d]) ∧ VK w' now' A' l' ∧ WK w' A2' ws' ∧ RK w' A3 rs c3 ∧ rs.length ≤ 70 ∧ RowsT rs ∧ 0 ≤ d ∧ d ≤ 6 ∧ Below w.heap.size w w'
set_option maxRecDepth 100000 in
set_option maxHeartbeats 16000000 in
theorem l4Do_any (A : Option Addr) (l : List Ver) (c : Nat) (now : Int) (on bad : Bool) (t : Int) (A2 : Option Addr) (ws : List Wri) (c2 : Nat) (x : AskV) (w : World) (hV : VK w now A l) (hW : WK w A2 ws) (hxa : x.2.1.size ≤ maxLen) (hxb : x.2.2.1.size ≤ maxLen) :
    Calls Try.prog 183 #[.agg #[.int .i64 now, .slice A l.length c], .agg #[.bool on, .bool bad, .int .i64 t, .slice A2 ws.length c2], .agg #[.int .i64 x.1, .string x.2.1, .string x.2.2.1, .int .i64 x.2.2.2]] w (DoP w) := by
  obtain ⟨ak, aa, ab, an⟩ := x
  simp only at hxa hxb ⊢
  have HXS := Lib.hid (⟨hxa, hxb⟩ : _ ∧ _)
  have hl : l.length ≤ 60 := hV.2.2.1
  have hw8 : ws.length ≤ 8 := hW.2.2
  have HNN := Lib.hid (⟨hV.2, hW.2⟩ : _ ∧ _)
  have hbE := allocAll_below w [(32, #[.int .i64 now, .slice A l.length c]), (78, #[.bool on, .bool bad, .int .i64 t, .slice A2 ws.length c2]), (128, #[.int .i64 ak, .string aa, .string ab, .int .i64 an]), (32, #[.int .i64 0, .slice none 0 0]), (78, #[.bool false, .bool false, .int .i64 0, .slice none 0 0]), (111, #[])]
  have H : Hid (SP w [(w.heap.size, 32, #[.int .i64 now, .slice A l.length c]), (w.heap.size + 1, 78, #[.bool on, .bool bad, .int .i64 t, .slice A2 ws.length c2]), (w.heap.size + 1 + 1, 128, #[.int .i64 ak, .string aa, .string ab, .int .i64 an]), (w.heap.size + 1 + 1 + 1, 32, #[.int .i64 0, .slice none 0 0]), (w.heap.size + 1 + 1 + 1 + 1, 78, #[.bool false, .bool false, .int .i64 0, .slice none 0 0]), (w.heap.size + 1 + 1 + 1 + 1 + 1, 111, #[])] [fun W => VK W now A l, fun W => WK W A2 ws] ((allocAll w [(32, #[.int .i64 now, .slice A l.length c]), (78, #[.bool on, .bool bad, .int .i64 t, .slice A2 ws.length c2]), (128, #[.int .i64 ak, .string aa, .string ab, .int .i64 an]), (32, #[.int .i64 0, .slice none 0 0]), (78, #[.bool false, .bool false, .int .i64 0, .slice none 0 0]), (111, #[])]))) := Lib.hid (SP.add (SP.add (SP.start w [(32, #[.int .i64 now, .slice A l.length c]), (78, #[.bool on, .bool bad, .int .i64 t, .slice A2 ws.length c2]), (128, #[.int .i64 ak, .string aa, .string ab, .int .i64 an]), (32, #[.int .i64 0, .slice none 0 0]), (78, #[.bool false, .bool false, .int .i64 0, .slice none 0 0]), (111, #[])]) _ VK.c (VK.c _ _ (Kp.below hbE) hV)) _ WK.c (WK.c _ _ (Kp.below hbE) hW))
  clear hbE
  go_enter Try.func183, Try.ntmps183
  clear hV hW hxa hxb
  have x0_0 : (allocAll w [(32, #[.int .i64 now, .slice A l.length c]), (78, #[.bool on, .bool bad, .int .i64 t, .slice A2 ws.length c2]), (128, #[.int .i64 ak, .string aa, .string ab, .int .i64 an]), (32, #[.int .i64 0, .slice none 0 0]), (78, #[.bool false, .bool false, .int .i64 0, .slice none 0 0]), (111, #[])]).cell? ⟨w.heap.size, 0, none⟩ = some (.int .i64 now) := (H.out.blk 0 rfl).cell 0
  have x0_1 : (allocAll w [(32, #[.int .i64 now, .slice A l.length c]), (78, #[.bool on, .bool bad, .int .i64 t, .slice A2 ws.length c2]), (128, #[.int .i64 ak, .string aa, .string ab, .int .i64 an]), (32, #[.int .i64 0, .slice none 0 0]), (78, #[.bool false, .bool false, .int .i64 0, .slice none 0 0]), (111, #[])]).cell? ⟨w.heap.size, 1, none⟩ = some (.slice A l.length c) := (H.out.blk 0 rfl).cell 1
  have x1_0 : (allocAll w [(32, #[.int .i64 now, .slice A l.length c]), (78, #[.bool on, .bool bad, .int .i64 t, .slice A2 ws.length c2]), (128, #[.int .i64 ak, .string aa, .string ab, .int .i64 an]), (32, #[.int .i64 0, .slice none 0 0]), (78, #[.bool false, .bool false, .int .i64 0, .slice none 0 0]), (111, #[])]).cell? ⟨w.heap.size + 1, 0, none⟩ = some (.bool on) := (H.out.blk 1 rfl).cell 0
  have x1_1 : (allocAll w [(32, #[.int .i64 now, .slice A l.length c]), (78, #[.bool on, .bool bad, .int .i64 t, .slice A2 ws.length c2]), (128, #[.int .i64 ak, .string aa, .string ab, .int .i64 an]), (32, #[.int .i64 0, .slice none 0 0]), (78, #[.bool false, .bool false, .int .i64 0, .slice none 0 0]), (111, #[])]).cell? ⟨w.heap.size + 1, 1, none⟩ = some (.bool bad) := (H.out.blk 1 rfl).cell 1
  have x1_2 : (allocAll w [(32, #[.int .i64 now, .slice A l.length c]), (78, #[.bool on, .bool bad, .int .i64 t, .slice A2 ws.length c2]), (128, #[.int .i64 ak, .string aa, .string ab, .int .i64 an]), (32, #[.int .i64 0, .slice none 0 0]), (78, #[.bool false, .bool false, .int .i64 0, .slice none 0 0]), (111, #[])]).cell? ⟨w.heap.size + 1, 2, none⟩ = some (.int .i64 t) := (H.out.blk 1 rfl).cell 2
  have x1_3 : (allocAll w [(32, #[.int .i64 now, .slice A l.length c]), (78, #[.bool on, .bool bad, .int .i64 t, .slice A2 ws.length c2]), (128, #[.int .i64 ak, .string aa, .string ab, .int .i64 an]), (32, #[.int .i64 0, .slice none 0 0]), (78, #[.bool false, .bool false, .int .i64 0, .slice none 0 0]), (111, #[])]).cell? ⟨w.heap.size + 1, 3, none⟩ = some (.slice A2 ws.length c2) := (H.out.blk 1 rfl).cell 3
  have x2_0 : (allocAll w [(32, #[.int .i64 now, .slice A l.length c]), (78, #[.bool on, .bool bad, .int .i64 t, .slice A2 ws.length c2]), (128, #[.int .i64 ak, .string aa, .string ab, .int .i64 an]), (32, #[.int .i64 0, .slice none 0 0]), (78, #[.bool false, .bool false, .int .i64 0, .slice none 0 0]), (111, #[])]).cell? ⟨w.heap.size + 1 + 1, 0, none⟩ = some (.int .i64 ak) := (H.out.blk 2 rfl).cell 0
  have x2_1 : (allocAll w [(32, #[.int .i64 now, .slice A l.length c]), (78, #[.bool on, .bool bad, .int .i64 t, .slice A2 ws.length c2]), (128, #[.int .i64 ak, .string aa, .string ab, .int .i64 an]), (32, #[.int .i64 0, .slice none 0 0]), (78, #[.bool false, .bool false, .int .i64 0, .slice none 0 0]), (111, #[])]).cell? ⟨w.heap.size + 1 + 1, 1, none⟩ = some (.string aa) := (H.out.blk 2 rfl).cell 1
  have x2_2 : (allocAll w [(32, #[.int .i64 now, .slice A l.length c]), (78, #[.bool on, .bool bad, .int .i64 t, .slice A2 ws.length c2]), (128, #[.int .i64 ak, .string aa, .string ab, .int .i64 an]), (32, #[.int .i64 0, .slice none 0 0]), (78, #[.bool false, .bool false, .int .i64 0, .slice none 0 0]), (111, #[])]).cell? ⟨w.heap.size + 1 + 1, 2, none⟩ = some (.string ab) := (H.out.blk 2 rfl).cell 2
  have x2_3 : (allocAll w [(32, #[.int .i64 now, .slice A l.length c]), (78, #[.bool on, .bool bad, .int .i64 t, .slice A2 ws.length c2]), (128, #[.int .i64 ak, .string aa, .string ab, .int .i64 an]), (32, #[.int .i64 0, .slice none 0 0]), (78, #[.bool false, .bool false, .int .i64 0, .slice none 0 0]), (111, #[])]).cell? ⟨w.heap.size + 1 + 1, 3, none⟩ = some (.int .i64 an) := (H.out.blk 2 rfl).cell 3
  go_wp2_with fail
  change Calls _ _ _ (allocAll w [(32, #[.int .i64 now, .slice A l.length c]), (78, #[.bool on, .bool bad, .int .i64 t, .slice A2 ws.length c2]), (128, #[.int .i64 ak, .string aa, .string ab, .int .i64 an]), (32, #[.int .i64 0, .slice none 0 0]), (78, #[.bool false, .bool false, .int .i64 0, .slice none 0 0]), (111, #[])]) _
  generalize (allocAll w [(32, #[.int .i64 now, .slice A l.length c]), (78, #[.bool on, .bool bad, .int .i64 t, .slice A2 ws.length c2]), (128, #[.int .i64 ak, .string aa, .string ab, .int .i64 an]), (32, #[.int .i64 0, .slice none 0 0]), (78, #[.bool false, .bool false, .int .i64 0, .slice none 0 0]), (111, #[])]) = w0 at *
  refine (specAskOk_any (ak, aa, ab, an) w0 HXS.out.1 HXS.out.2).mono ?_
  rintro e w1 ⟨v, rfl, hv, hb1⟩
  replace H : Hid (SP w [(w.heap.size, 32, #[.int .i64 now, .slice A l.length c]), (w.heap.size + 1, 78, #[.bool on, .bool bad, .int .i64 t, .slice A2 ws.length c2]), (w.heap.size + 1 + 1, 128, #[.int .i64 ak, .string aa, .string ab, .int .i64 an]), (w.heap.size + 1 + 1 + 1, 32, #[.int .i64 0, .slice none 0 0]), (w.heap.size + 1 + 1 + 1 + 1, 78, #[.bool false, .bool false, .int .i64 0, .slice none 0 0]), (w.heap.size + 1 + 1 + 1 + 1 + 1, 111, #[])] [fun W => VK W now A l, fun W => WK W A2 ws] w1) := Lib.hid (H.out.kept hb1)
  clear x0_0 x0_1 x1_0 x1_1 x1_2 x1_3 x2_0 x2_1 x2_2 x2_3 hb1
  cases v
  case false =>
    clear hv
    have x0_0 : w1.cell? ⟨w.heap.size, 0, none⟩ = some (.int .i64 now) := (H.out.blk 0 rfl).cell 0
    have x0_1 : w1.cell? ⟨w.heap.size, 1, none⟩ = some (.slice A l.length c) := (H.out.blk 0 rfl).cell 1
    have x1_0 : w1.cell? ⟨w.heap.size + 1, 0, none⟩ = some (.bool on) := (H.out.blk 1 rfl).cell 0
    have x1_1 : w1.cell? ⟨w.heap.size + 1, 1, none⟩ = some (.bool bad) := (H.out.blk 1 rfl).cell 1
    have x1_2 : w1.cell? ⟨w.heap.size + 1, 2, none⟩ = some (.int .i64 t) := (H.out.blk 1 rfl).cell 2
    have x1_3 : w1.cell? ⟨w.heap.size + 1, 3, none⟩ = some (.slice A2 ws.length c2) := (H.out.blk 1 rfl).cell 3
    have x3_0 : w1.cell? ⟨w.heap.size + 1 + 1 + 1, 0, none⟩ = some (.int .i64 0) := (H.out.blk 3 rfl).cell 0
    have x3_1 : w1.cell? ⟨w.heap.size + 1 + 1 + 1, 1, none⟩ = some (.slice none 0 0) := (H.out.blk 3 rfl).cell 1
    have x4_0 : w1.cell? ⟨w.heap.size + 1 + 1 + 1 + 1, 0, none⟩ = some (.bool false) := (H.out.blk 4 rfl).cell 0
    have x4_1 : w1.cell? ⟨w.heap.size + 1 + 1 + 1 + 1, 1, none⟩ = some (.bool false) := (H.out.blk 4 rfl).cell 1
    have x4_2 : w1.cell? ⟨w.heap.size + 1 + 1 + 1 + 1, 2, none⟩ = some (.int .i64 0) := (H.out.blk 4 rfl).cell 2
    have x4_3 : w1.cell? ⟨w.heap.size + 1 + 1 + 1 + 1, 3, none⟩ = some (.slice none 0 0) := (H.out.blk 4 rfl).cell 3
    have z3_0 := (H.out.blk 3 rfl).frozen 0
    have z3_1 := (H.out.blk 3 rfl).frozen 1
    have z4_0 := (H.out.blk 4 rfl).frozen 0
    have z4_1 := (H.out.blk 4 rfl).frozen 1
    have z4_2 := (H.out.blk 4 rfl).frozen 2
    have z4_3 := (H.out.blk 4 rfl).frozen 3
    go_wp2_with fail
    replace H := Lib.hid (H.out.kept (kD w1))
    go_region_with (go_at_call 186; refine (l4Wrong_any on bad t A2 ws.length c2 _).mono ?_; rintro e wz ⟨rfl, hbz⟩; replace H := Lib.hid (H.out.kept hbz); have hkk : wz.cell? ⟨w.heap.size, 0, none⟩ = some (.int .i64 now) ∧ wz.cell? ⟨w.heap.size, 1, none⟩ = some (.slice A l.length c) ∧ wz.cell? ⟨w.heap.size + 1, 0, none⟩ = some (.bool on) ∧ wz.cell? ⟨w.heap.size + 1, 1, none⟩ = some (.bool bad) ∧ wz.cell? ⟨w.heap.size + 1, 2, none⟩ = some (.int .i64 t) ∧ wz.cell? ⟨w.heap.size + 1, 3, none⟩ = some (.slice A2 ws.length c2) ∧ wz.cell? ⟨w.heap.size + 1 + 1 + 1, 0, none⟩ = some (.int .i64 0) ∧ wz.cell? ⟨w.heap.size + 1 + 1 + 1, 1, none⟩ = some (.slice none 0 0) ∧ wz.cell? ⟨w.heap.size + 1 + 1 + 1 + 1, 0, none⟩ = some (.bool false) ∧ wz.cell? ⟨w.heap.size + 1 + 1 + 1 + 1, 1, none⟩ = some (.bool false) ∧ wz.cell? ⟨w.heap.size + 1 + 1 + 1 + 1, 2, none⟩ = some (.int .i64 0) ∧ wz.cell? ⟨w.heap.size + 1 + 1 + 1 + 1, 3, none⟩ = some (.slice none 0 0) := ⟨(H.out.blk 0 rfl).cell 0, (H.out.blk 0 rfl).cell 1, (H.out.blk 1 rfl).cell 0, (H.out.blk 1 rfl).cell 1, (H.out.blk 1 rfl).cell 2, (H.out.blk 1 rfl).cell 3, (H.out.blk 3 rfl).cell 0, (H.out.blk 3 rfl).cell 1, (H.out.blk 4 rfl).cell 0, (H.out.blk 4 rfl).cell 1, (H.out.blk 4 rfl).cell 2, (H.out.blk 4 rfl).cell 3⟩; have hfz := fun j => (H.out.blk 3 rfl).frozen j; have hfz2 := fun j => (H.out.blk 4 rfl).frozen j; clear hbz)
    all_goals
      obtain ⟨x0_0, x0_1, x1_0, x1_1, x1_2, x1_3, x3_0, x3_1, x4_0, x4_1, x4_2, x4_3⟩ := hkk
      go_wp2
      first
      | (have HZ := Lib.hid (SP.set (SP.set (SP.set (SP.set (SP.set (SP.set (H.out) 3 0 (.int .i64 now) rfl (by decide)) 3 1 (.slice A l.length c) rfl (by decide)) 4 0 (.bool on) rfl (by decide)) 4 1 (.bool on) rfl (by decide)) 4 2 (.int .i64 t) rfl (by decide)) 4 3 (.slice A2 ws.length c2) rfl (by decide)); refine bodyPost_ret (v := .tuple #[.agg #[.int .i64 now, .slice A l.length c], .agg #[.bool on, .bool on, .int .i64 t, .slice A2 ws.length c2], .slice (some ⟨w.heap.size + 1 + 1 + 1 + 1 + 1, 0, none⟩) 0 0, .int .i64 1]) ?_ rfl (⟨now, A, l, c, on, on, t, A2, ws, c2, _, [], 0, 1, rfl, HZ.out.get 0 rfl, HZ.out.get 1 rfl, RK.nil _ _, by simp, rowsT_nil, by decide, by decide, HZ.out.below⟩); (simp [results, Try.results183, go_sem, x3_0, x3_1, x4_0, x4_1, x4_2, x4_3]; done))
  have HAP := Lib.hid (hv rfl)
  clear hv
  by_cases k8 : ak = 8
  case pos =>
    subst k8
    have x0_0 : w1.cell? ⟨w.heap.size, 0, none⟩ = some (.int .i64 now) := (H.out.blk 0 rfl).cell 0
    have x0_1 : w1.cell? ⟨w.heap.size, 1, none⟩ = some (.slice A l.length c) := (H.out.blk 0 rfl).cell 1
    have x1_0 : w1.cell? ⟨w.heap.size + 1, 0, none⟩ = some (.bool on) := (H.out.blk 1 rfl).cell 0
    have x1_1 : w1.cell? ⟨w.heap.size + 1, 1, none⟩ = some (.bool bad) := (H.out.blk 1 rfl).cell 1
    have x1_2 : w1.cell? ⟨w.heap.size + 1, 2, none⟩ = some (.int .i64 t) := (H.out.blk 1 rfl).cell 2
    have x1_3 : w1.cell? ⟨w.heap.size + 1, 3, none⟩ = some (.slice A2 ws.length c2) := (H.out.blk 1 rfl).cell 3
    have x2_0 : w1.cell? ⟨w.heap.size + 1 + 1, 0, none⟩ = some (.int .i64 8) := (H.out.blk 2 rfl).cell 0
    have x2_1 : w1.cell? ⟨w.heap.size + 1 + 1, 1, none⟩ = some (.string aa) := (H.out.blk 2 rfl).cell 1
    have x2_2 : w1.cell? ⟨w.heap.size + 1 + 1, 2, none⟩ = some (.string ab) := (H.out.blk 2 rfl).cell 2
    have x2_3 : w1.cell? ⟨w.heap.size + 1 + 1, 3, none⟩ = some (.int .i64 an) := (H.out.blk 2 rfl).cell 3
    have x3_0 : w1.cell? ⟨w.heap.size + 1 + 1 + 1, 0, none⟩ = some (.int .i64 0) := (H.out.blk 3 rfl).cell 0
    have x3_1 : w1.cell? ⟨w.heap.size + 1 + 1 + 1, 1, none⟩ = some (.slice none 0 0) := (H.out.blk 3 rfl).cell 1
    have x4_0 : w1.cell? ⟨w.heap.size + 1 + 1 + 1 + 1, 0, none⟩ = some (.bool false) := (H.out.blk 4 rfl).cell 0
    have x4_1 : w1.cell? ⟨w.heap.size + 1 + 1 + 1 + 1, 1, none⟩ = some (.bool false) := (H.out.blk 4 rfl).cell 1
    have x4_2 : w1.cell? ⟨w.heap.size + 1 + 1 + 1 + 1, 2, none⟩ = some (.int .i64 0) := (H.out.blk 4 rfl).cell 2
    have x4_3 : w1.cell? ⟨w.heap.size + 1 + 1 + 1 + 1, 3, none⟩ = some (.slice none 0 0) := (H.out.blk 4 rfl).cell 3
    have z3_0 := (H.out.blk 3 rfl).frozen 0
    have z3_1 := (H.out.blk 3 rfl).frozen 1
    have z4_0 := (H.out.blk 4 rfl).frozen 0
    have z4_1 := (H.out.blk 4 rfl).frozen 1
    have z4_2 := (H.out.blk 4 rfl).frozen 2
    have z4_3 := (H.out.blk 4 rfl).frozen 3
    go_wp2_with fail
    refine (l4Ends_any A l c now on bad t A2 ws c2 8 _ (H.out.get 0 rfl) (H.out.get 1 rfl)).mono ?_
    rintro e w2 ⟨nw, A5, L5, c5, on5, bad5, t5, A6, W6, c6, d5, rfl, hV5, hW5, hd0, hd1, hb2⟩
    replace H : Hid (SP w [(w.heap.size, 32, #[.int .i64 now, .slice A l.length c]), (w.heap.size + 1, 78, #[.bool on, .bool bad, .int .i64 t, .slice A2 ws.length c2]), (w.heap.size + 1 + 1, 128, #[.int .i64 8, .string aa, .string ab, .int .i64 an]), (w.heap.size + 1 + 1 + 1, 32, #[.int .i64 0, .slice none 0 0]), (w.heap.size + 1 + 1 + 1 + 1, 78, #[.bool false, .bool false, .int .i64 0, .slice none 0 0]), (w.heap.size + 1 + 1 + 1 + 1 + 1, 111, #[])] [fun W => VK W now A l, fun W => WK W A2 ws, fun W => VK W nw A5 L5, fun W => WK W A6 W6] w2) := Lib.hid (SP.add (SP.add (H.out.kept hb2) _ VK.c (hV5)) _ WK.c (hW5))
    clear x0_0 x0_1 x1_0 x1_1 x1_2 x1_3 x2_0 x2_1 x2_2 x2_3 x3_0 x3_1 x4_0 x4_1 x4_2 x4_3 z3_0 z3_1 z4_0 z4_1 z4_2 z4_3 hb2 hV5 hW5
    have hlt4 := (H.out.blk 4 rfl).lt
    have np3 : w2.heap.size ≠ w.heap.size + 1 + 1 + 1 := by omega
    have mp3 : w.heap.size + 1 + 1 + 1 ≠ w2.heap.size := by omega
    have np4 : w2.heap.size ≠ w.heap.size + 1 + 1 + 1 + 1 := by omega
    have mp4 : w.heap.size + 1 + 1 + 1 + 1 ≠ w2.heap.size := by omega
    have nq3 : w2.heap.size + 1 ≠ w.heap.size + 1 + 1 + 1 := by omega
    have mq3 : w.heap.size + 1 + 1 + 1 ≠ w2.heap.size + 1 := by omega
    have nq4 : w2.heap.size + 1 ≠ w.heap.size + 1 + 1 + 1 + 1 := by omega
    have mq4 : w.heap.size + 1 + 1 + 1 + 1 ≠ w2.heap.size + 1 := by omega
    clear hlt4
    replace H : Hid (SP w [(w.heap.size, 32, #[.int .i64 now, .slice A l.length c]), (w.heap.size + 1, 78, #[.bool on, .bool bad, .int .i64 t, .slice A2 ws.length c2]), (w.heap.size + 1 + 1, 128, #[.int .i64 8, .string aa, .string ab, .int .i64 an]), (w.heap.size + 1 + 1 + 1, 32, #[.int .i64 0, .slice none 0 0]), (w.heap.size + 1 + 1 + 1 + 1, 78, #[.bool false, .bool false, .int .i64 0, .slice none 0 0]), (w.heap.size + 1 + 1 + 1 + 1 + 1, 111, #[]), (w2.heap.size, 32, #[.int .i64 nw, .slice A5 L5.length c5]), (w2.heap.size + 1, 78, #[.bool on5, .bool bad5, .int .i64 t5, .slice A6 W6.length c6])] [fun W => VK W now A l, fun W => WK W A2 ws, fun W => VK W nw A5 L5, fun W => WK W A6 W6] (((w2.alloc (.cells #[.int .i64 nw, .slice A5 L5.length c5] 32)).alloc (.cells #[.bool on5, .bool bad5, .int .i64 t5, .slice A6 W6.length c6] 78)))) := Lib.hid (H.out.boxes [(32, #[.int .i64 nw, .slice A5 L5.length c5]), (78, #[.bool on5, .bool bad5, .int .i64 t5, .slice A6 W6.length c6])])
    have x3_0 : ((w2.alloc (.cells #[.int .i64 nw, .slice A5 L5.length c5] 32)).alloc (.cells #[.bool on5, .bool bad5, .int .i64 t5, .slice A6 W6.length c6] 78)).cell? ⟨w.heap.size + 1 + 1 + 1, 0, none⟩ = some (.int .i64 0) := (H.out.blk 3 rfl).cell 0
    have x3_1 : ((w2.alloc (.cells #[.int .i64 nw, .slice A5 L5.length c5] 32)).alloc (.cells #[.bool on5, .bool bad5, .int .i64 t5, .slice A6 W6.length c6] 78)).cell? ⟨w.heap.size + 1 + 1 + 1, 1, none⟩ = some (.slice none 0 0) := (H.out.blk 3 rfl).cell 1
    have x4_0 : ((w2.alloc (.cells #[.int .i64 nw, .slice A5 L5.length c5] 32)).alloc (.cells #[.bool on5, .bool bad5, .int .i64 t5, .slice A6 W6.length c6] 78)).cell? ⟨w.heap.size + 1 + 1 + 1 + 1, 0, none⟩ = some (.bool false) := (H.out.blk 4 rfl).cell 0
    have x4_1 : ((w2.alloc (.cells #[.int .i64 nw, .slice A5 L5.length c5] 32)).alloc (.cells #[.bool on5, .bool bad5, .int .i64 t5, .slice A6 W6.length c6] 78)).cell? ⟨w.heap.size + 1 + 1 + 1 + 1, 1, none⟩ = some (.bool false) := (H.out.blk 4 rfl).cell 1
    have x4_2 : ((w2.alloc (.cells #[.int .i64 nw, .slice A5 L5.length c5] 32)).alloc (.cells #[.bool on5, .bool bad5, .int .i64 t5, .slice A6 W6.length c6] 78)).cell? ⟨w.heap.size + 1 + 1 + 1 + 1, 2, none⟩ = some (.int .i64 0) := (H.out.blk 4 rfl).cell 2
    have x4_3 : ((w2.alloc (.cells #[.int .i64 nw, .slice A5 L5.length c5] 32)).alloc (.cells #[.bool on5, .bool bad5, .int .i64 t5, .slice A6 W6.length c6] 78)).cell? ⟨w.heap.size + 1 + 1 + 1 + 1, 3, none⟩ = some (.slice none 0 0) := (H.out.blk 4 rfl).cell 3
    have z3_0 := (H.out.blk 3 rfl).frozen 0
    have z3_1 := (H.out.blk 3 rfl).frozen 1
    have z4_0 := (H.out.blk 4 rfl).frozen 0
    have z4_1 := (H.out.blk 4 rfl).frozen 1
    have z4_2 := (H.out.blk 4 rfl).frozen 2
    have z4_3 := (H.out.blk 4 rfl).frozen 3
    have HD := Lib.hid (⟨hd0, hd1⟩ : _ ∧ _)
    clear hd0 hd1
    go_wp2_with fail
    go_region
    all_goals
      go_wp2
      first
      | (have HZ := Lib.hid (SP.kept (SP.set (SP.set (SP.set (SP.set (SP.set (SP.set (H.out) 3 0 (.int .i64 nw) rfl (by decide)) 3 1 (.slice A5 L5.length c5) rfl (by decide)) 4 0 (.bool on5) rfl (by decide)) 4 1 (.bool bad5) rfl (by decide)) 4 2 (.int .i64 t5) rfl (by decide)) 4 3 (.slice A6 W6.length c6) rfl (by decide)) (kD _)); refine bodyPost_ret (v := .tuple #[.agg #[.int .i64 nw, .slice A5 L5.length c5], .agg #[.bool on5, .bool bad5, .int .i64 t5, .slice A6 W6.length c6], .slice (some ⟨w.heap.size + 1 + 1 + 1 + 1 + 1, 0, none⟩) 0 0, .int .i64 d5]) ?_ rfl (⟨nw, A5, L5, c5, on5, bad5, t5, A6, W6, c6, _, [], 0, d5, rfl, HZ.out.get 2 rfl, HZ.out.get 3 rfl, RK.nil _ _, by simp, rowsT_nil, HD.out.1, HD.out.2, HZ.out.below⟩); (simp [results, Try.results183, go_sem, x3_0, x3_1, x4_0, x4_1, x4_2, x4_3]; done))
  have e8 : (ak == 8) = false := beq_eq_false_iff_ne.2 k8
  by_cases k9 : ak = 9
  case pos =>
    subst k9
    have x0_0 : w1.cell? ⟨w.heap.size, 0, none⟩ = some (.int .i64 now) := (H.out.blk 0 rfl).cell 0
    have x0_1 : w1.cell? ⟨w.heap.size, 1, none⟩ = some (.slice A l.length c) := (H.out.blk 0 rfl).cell 1
    have x1_0 : w1.cell? ⟨w.heap.size + 1, 0, none⟩ = some (.bool on) := (H.out.blk 1 rfl).cell 0
    have x1_1 : w1.cell? ⟨w.heap.size + 1, 1, none⟩ = some (.bool bad) := (H.out.blk 1 rfl).cell 1
    have x1_2 : w1.cell? ⟨w.heap.size + 1, 2, none⟩ = some (.int .i64 t) := (H.out.blk 1 rfl).cell 2
    have x1_3 : w1.cell? ⟨w.heap.size + 1, 3, none⟩ = some (.slice A2 ws.length c2) := (H.out.blk 1 rfl).cell 3
    have x2_0 : w1.cell? ⟨w.heap.size + 1 + 1, 0, none⟩ = some (.int .i64 9) := (H.out.blk 2 rfl).cell 0
    have x2_1 : w1.cell? ⟨w.heap.size + 1 + 1, 1, none⟩ = some (.string aa) := (H.out.blk 2 rfl).cell 1
    have x2_2 : w1.cell? ⟨w.heap.size + 1 + 1, 2, none⟩ = some (.string ab) := (H.out.blk 2 rfl).cell 2
    have x2_3 : w1.cell? ⟨w.heap.size + 1 + 1, 3, none⟩ = some (.int .i64 an) := (H.out.blk 2 rfl).cell 3
    have x3_0 : w1.cell? ⟨w.heap.size + 1 + 1 + 1, 0, none⟩ = some (.int .i64 0) := (H.out.blk 3 rfl).cell 0
    have x3_1 : w1.cell? ⟨w.heap.size + 1 + 1 + 1, 1, none⟩ = some (.slice none 0 0) := (H.out.blk 3 rfl).cell 1
    have x4_0 : w1.cell? ⟨w.heap.size + 1 + 1 + 1 + 1, 0, none⟩ = some (.bool false) := (H.out.blk 4 rfl).cell 0
    have x4_1 : w1.cell? ⟨w.heap.size + 1 + 1 + 1 + 1, 1, none⟩ = some (.bool false) := (H.out.blk 4 rfl).cell 1
    have x4_2 : w1.cell? ⟨w.heap.size + 1 + 1 + 1 + 1, 2, none⟩ = some (.int .i64 0) := (H.out.blk 4 rfl).cell 2
    have x4_3 : w1.cell? ⟨w.heap.size + 1 + 1 + 1 + 1, 3, none⟩ = some (.slice none 0 0) := (H.out.blk 4 rfl).cell 3
    have z3_0 := (H.out.blk 3 rfl).frozen 0
    have z3_1 := (H.out.blk 3 rfl).frozen 1
    have z4_0 := (H.out.blk 4 rfl).frozen 0
    have z4_1 := (H.out.blk 4 rfl).frozen 1
    have z4_2 := (H.out.blk 4 rfl).frozen 2
    have z4_3 := (H.out.blk 4 rfl).frozen 3
    go_wp2_with fail
    refine (l4Ends_any A l c now on bad t A2 ws c2 9 _ (H.out.get 0 rfl) (H.out.get 1 rfl)).mono ?_
    rintro e w2 ⟨nw, A5, L5, c5, on5, bad5, t5, A6, W6, c6, d5, rfl, hV5, hW5, hd0, hd1, hb2⟩
    replace H : Hid (SP w [(w.heap.size, 32, #[.int .i64 now, .slice A l.length c]), (w.heap.size + 1, 78, #[.bool on, .bool bad, .int .i64 t, .slice A2 ws.length c2]), (w.heap.size + 1 + 1, 128, #[.int .i64 9, .string aa, .string ab, .int .i64 an]), (w.heap.size + 1 + 1 + 1, 32, #[.int .i64 0, .slice none 0 0]), (w.heap.size + 1 + 1 + 1 + 1, 78, #[.bool false, .bool false, .int .i64 0, .slice none 0 0]), (w.heap.size + 1 + 1 + 1 + 1 + 1, 111, #[])] [fun W => VK W now A l, fun W => WK W A2 ws, fun W => VK W nw A5 L5, fun W => WK W A6 W6] w2) := Lib.hid (SP.add (SP.add (H.out.kept hb2) _ VK.c (hV5)) _ WK.c (hW5))
    clear x0_0 x0_1 x1_0 x1_1 x1_2 x1_3 x2_0 x2_1 x2_2 x2_3 x3_0 x3_1 x4_0 x4_1 x4_2 x4_3 z3_0 z3_1 z4_0 z4_1 z4_2 z4_3 hb2 hV5 hW5
    have hlt4 := (H.out.blk 4 rfl).lt
    have np3 : w2.heap.size ≠ w.heap.size + 1 + 1 + 1 := by omega
    have mp3 : w.heap.size + 1 + 1 + 1 ≠ w2.heap.size := by omega
    have np4 : w2.heap.size ≠ w.heap.size + 1 + 1 + 1 + 1 := by omega
    have mp4 : w.heap.size + 1 + 1 + 1 + 1 ≠ w2.heap.size := by omega
    have nq3 : w2.heap.size + 1 ≠ w.heap.size + 1 + 1 + 1 := by omega
    have mq3 : w.heap.size + 1 + 1 + 1 ≠ w2.heap.size + 1 := by omega
    have nq4 : w2.heap.size + 1 ≠ w.heap.size + 1 + 1 + 1 + 1 := by omega
    have mq4 : w.heap.size + 1 + 1 + 1 + 1 ≠ w2.heap.size + 1 := by omega
    clear hlt4
    replace H : Hid (SP w [(w.heap.size, 32, #[.int .i64 now, .slice A l.length c]), (w.heap.size + 1, 78, #[.bool on, .bool bad, .int .i64 t, .slice A2 ws.length c2]), (w.heap.size + 1 + 1, 128, #[.int .i64 9, .string aa, .string ab, .int .i64 an]), (w.heap.size + 1 + 1 + 1, 32, #[.int .i64 0, .slice none 0 0]), (w.heap.size + 1 + 1 + 1 + 1, 78, #[.bool false, .bool false, .int .i64 0, .slice none 0 0]), (w.heap.size + 1 + 1 + 1 + 1 + 1, 111, #[]), (w2.heap.size, 32, #[.int .i64 nw, .slice A5 L5.length c5]), (w2.heap.size + 1, 78, #[.bool on5, .bool bad5, .int .i64 t5, .slice A6 W6.length c6])] [fun W => VK W now A l, fun W => WK W A2 ws, fun W => VK W nw A5 L5, fun W => WK W A6 W6] (((w2.alloc (.cells #[.int .i64 nw, .slice A5 L5.length c5] 32)).alloc (.cells #[.bool on5, .bool bad5, .int .i64 t5, .slice A6 W6.length c6] 78)))) := Lib.hid (H.out.boxes [(32, #[.int .i64 nw, .slice A5 L5.length c5]), (78, #[.bool on5, .bool bad5, .int .i64 t5, .slice A6 W6.length c6])])
    have x3_0 : ((w2.alloc (.cells #[.int .i64 nw, .slice A5 L5.length c5] 32)).alloc (.cells #[.bool on5, .bool bad5, .int .i64 t5, .slice A6 W6.length c6] 78)).cell? ⟨w.heap.size + 1 + 1 + 1, 0, none⟩ = some (.int .i64 0) := (H.out.blk 3 rfl).cell 0
    have x3_1 : ((w2.alloc (.cells #[.int .i64 nw, .slice A5 L5.length c5] 32)).alloc (.cells #[.bool on5, .bool bad5, .int .i64 t5, .slice A6 W6.length c6] 78)).cell? ⟨w.heap.size + 1 + 1 + 1, 1, none⟩ = some (.slice none 0 0) := (H.out.blk 3 rfl).cell 1
    have x4_0 : ((w2.alloc (.cells #[.int .i64 nw, .slice A5 L5.length c5] 32)).alloc (.cells #[.bool on5, .bool bad5, .int .i64 t5, .slice A6 W6.length c6] 78)).cell? ⟨w.heap.size + 1 + 1 + 1 + 1, 0, none⟩ = some (.bool false) := (H.out.blk 4 rfl).cell 0
    have x4_1 : ((w2.alloc (.cells #[.int .i64 nw, .slice A5 L5.length c5] 32)).alloc (.cells #[.bool on5, .bool bad5, .int .i64 t5, .slice A6 W6.length c6] 78)).cell? ⟨w.heap.size + 1 + 1 + 1 + 1, 1, none⟩ = some (.bool false) := (H.out.blk 4 rfl).cell 1
    have x4_2 : ((w2.alloc (.cells #[.int .i64 nw, .slice A5 L5.length c5] 32)).alloc (.cells #[.bool on5, .bool bad5, .int .i64 t5, .slice A6 W6.length c6] 78)).cell? ⟨w.heap.size + 1 + 1 + 1 + 1, 2, none⟩ = some (.int .i64 0) := (H.out.blk 4 rfl).cell 2
    have x4_3 : ((w2.alloc (.cells #[.int .i64 nw, .slice A5 L5.length c5] 32)).alloc (.cells #[.bool on5, .bool bad5, .int .i64 t5, .slice A6 W6.length c6] 78)).cell? ⟨w.heap.size + 1 + 1 + 1 + 1, 3, none⟩ = some (.slice none 0 0) := (H.out.blk 4 rfl).cell 3
    have z3_0 := (H.out.blk 3 rfl).frozen 0
    have z3_1 := (H.out.blk 3 rfl).frozen 1
    have z4_0 := (H.out.blk 4 rfl).frozen 0
    have z4_1 := (H.out.blk 4 rfl).frozen 1
    have z4_2 := (H.out.blk 4 rfl).frozen 2
    have z4_3 := (H.out.blk 4 rfl).frozen 3
    have HD := Lib.hid (⟨hd0, hd1⟩ : _ ∧ _)
    clear hd0 hd1
    go_wp2_with fail
    go_region
    all_goals
      go_wp2
      first
      | (have HZ := Lib.hid (SP.kept (SP.set (SP.set (SP.set (SP.set (SP.set (SP.set (H.out) 3 0 (.int .i64 nw) rfl (by decide)) 3 1 (.slice A5 L5.length c5) rfl (by decide)) 4 0 (.bool on5) rfl (by decide)) 4 1 (.bool bad5) rfl (by decide)) 4 2 (.int .i64 t5) rfl (by decide)) 4 3 (.slice A6 W6.length c6) rfl (by decide)) (kD _)); refine bodyPost_ret (v := .tuple #[.agg #[.int .i64 nw, .slice A5 L5.length c5], .agg #[.bool on5, .bool bad5, .int .i64 t5, .slice A6 W6.length c6], .slice (some ⟨w.heap.size + 1 + 1 + 1 + 1 + 1, 0, none⟩) 0 0, .int .i64 d5]) ?_ rfl (⟨nw, A5, L5, c5, on5, bad5, t5, A6, W6, c6, _, [], 0, d5, rfl, HZ.out.get 2 rfl, HZ.out.get 3 rfl, RK.nil _ _, by simp, rowsT_nil, HD.out.1, HD.out.2, HZ.out.below⟩); (simp [results, Try.results183, go_sem, x3_0, x3_1, x4_0, x4_1, x4_2, x4_3]; done))
  have e9 : (ak == 9) = false := beq_eq_false_iff_ne.2 k9
  cases bad
  case true =>
    have x0_0 : w1.cell? ⟨w.heap.size, 0, none⟩ = some (.int .i64 now) := (H.out.blk 0 rfl).cell 0
    have x0_1 : w1.cell? ⟨w.heap.size, 1, none⟩ = some (.slice A l.length c) := (H.out.blk 0 rfl).cell 1
    have x1_0 : w1.cell? ⟨w.heap.size + 1, 0, none⟩ = some (.bool on) := (H.out.blk 1 rfl).cell 0
    have x1_1 : w1.cell? ⟨w.heap.size + 1, 1, none⟩ = some (.bool true) := (H.out.blk 1 rfl).cell 1
    have x1_2 : w1.cell? ⟨w.heap.size + 1, 2, none⟩ = some (.int .i64 t) := (H.out.blk 1 rfl).cell 2
    have x1_3 : w1.cell? ⟨w.heap.size + 1, 3, none⟩ = some (.slice A2 ws.length c2) := (H.out.blk 1 rfl).cell 3
    have x2_0 : w1.cell? ⟨w.heap.size + 1 + 1, 0, none⟩ = some (.int .i64 ak) := (H.out.blk 2 rfl).cell 0
    have x2_1 : w1.cell? ⟨w.heap.size + 1 + 1, 1, none⟩ = some (.string aa) := (H.out.blk 2 rfl).cell 1
    have x2_2 : w1.cell? ⟨w.heap.size + 1 + 1, 2, none⟩ = some (.string ab) := (H.out.blk 2 rfl).cell 2
    have x2_3 : w1.cell? ⟨w.heap.size + 1 + 1, 3, none⟩ = some (.int .i64 an) := (H.out.blk 2 rfl).cell 3
    have x3_0 : w1.cell? ⟨w.heap.size + 1 + 1 + 1, 0, none⟩ = some (.int .i64 0) := (H.out.blk 3 rfl).cell 0
    have x3_1 : w1.cell? ⟨w.heap.size + 1 + 1 + 1, 1, none⟩ = some (.slice none 0 0) := (H.out.blk 3 rfl).cell 1
    have x4_0 : w1.cell? ⟨w.heap.size + 1 + 1 + 1 + 1, 0, none⟩ = some (.bool false) := (H.out.blk 4 rfl).cell 0
    have x4_1 : w1.cell? ⟨w.heap.size + 1 + 1 + 1 + 1, 1, none⟩ = some (.bool false) := (H.out.blk 4 rfl).cell 1
    have x4_2 : w1.cell? ⟨w.heap.size + 1 + 1 + 1 + 1, 2, none⟩ = some (.int .i64 0) := (H.out.blk 4 rfl).cell 2
    have x4_3 : w1.cell? ⟨w.heap.size + 1 + 1 + 1 + 1, 3, none⟩ = some (.slice none 0 0) := (H.out.blk 4 rfl).cell 3
    have z3_0 := (H.out.blk 3 rfl).frozen 0
    have z3_1 := (H.out.blk 3 rfl).frozen 1
    have z4_0 := (H.out.blk 4 rfl).frozen 0
    have z4_1 := (H.out.blk 4 rfl).frozen 1
    have z4_2 := (H.out.blk 4 rfl).frozen 2
    have z4_3 := (H.out.blk 4 rfl).frozen 3
    go_wp2_with fail
    go_region
    all_goals
      go_wp2
      first
      | (have HZ := Lib.hid (SP.kept (SP.set (SP.set (SP.set (SP.set (SP.set (SP.set (H.out) 3 0 (.int .i64 now) rfl (by decide)) 3 1 (.slice A l.length c) rfl (by decide)) 4 0 (.bool on) rfl (by decide)) 4 1 (.bool true) rfl (by decide)) 4 2 (.int .i64 t) rfl (by decide)) 4 3 (.slice A2 ws.length c2) rfl (by decide)) (kD _)); refine bodyPost_ret (v := .tuple #[.agg #[.int .i64 now, .slice A l.length c], .agg #[.bool on, .bool true, .int .i64 t, .slice A2 ws.length c2], .slice (some ⟨w.heap.size + 1 + 1 + 1 + 1 + 1, 0, none⟩) 0 0, .int .i64 5]) ?_ rfl (⟨now, A, l, c, on, true, t, A2, ws, c2, _, [], 0, 5, rfl, HZ.out.get 0 rfl, HZ.out.get 1 rfl, RK.nil _ _, by simp, rowsT_nil, by decide, by decide, HZ.out.below⟩); (simp [results, Try.results183, go_sem, x3_0, x3_1, x4_0, x4_1, x4_2, x4_3]; done))
  by_cases k7 : ak = 7
  case pos =>
    subst k7
    cases on
    case true =>
      have x2_0 : w1.cell? ⟨w.heap.size + 1 + 1, 0, none⟩ = some (.int .i64 7) := (H.out.blk 2 rfl).cell 0
      have x2_1 : w1.cell? ⟨w.heap.size + 1 + 1, 1, none⟩ = some (.string aa) := (H.out.blk 2 rfl).cell 1
      have x2_2 : w1.cell? ⟨w.heap.size + 1 + 1, 2, none⟩ = some (.string ab) := (H.out.blk 2 rfl).cell 2
      have x2_3 : w1.cell? ⟨w.heap.size + 1 + 1, 3, none⟩ = some (.int .i64 an) := (H.out.blk 2 rfl).cell 3
      have x0_0 : w1.cell? ⟨w.heap.size, 0, none⟩ = some (.int .i64 now) := (H.out.blk 0 rfl).cell 0
      have x0_1 : w1.cell? ⟨w.heap.size, 1, none⟩ = some (.slice A l.length c) := (H.out.blk 0 rfl).cell 1
      have x1_0 : w1.cell? ⟨w.heap.size + 1, 0, none⟩ = some (.bool true) := (H.out.blk 1 rfl).cell 0
      have x1_1 : w1.cell? ⟨w.heap.size + 1, 1, none⟩ = some (.bool false) := (H.out.blk 1 rfl).cell 1
      have x1_2 : w1.cell? ⟨w.heap.size + 1, 2, none⟩ = some (.int .i64 t) := (H.out.blk 1 rfl).cell 2
      have x1_3 : w1.cell? ⟨w.heap.size + 1, 3, none⟩ = some (.slice A2 ws.length c2) := (H.out.blk 1 rfl).cell 3
      have x3_0 : w1.cell? ⟨w.heap.size + 1 + 1 + 1, 0, none⟩ = some (.int .i64 0) := (H.out.blk 3 rfl).cell 0
      have x3_1 : w1.cell? ⟨w.heap.size + 1 + 1 + 1, 1, none⟩ = some (.slice none 0 0) := (H.out.blk 3 rfl).cell 1
      have x4_0 : w1.cell? ⟨w.heap.size + 1 + 1 + 1 + 1, 0, none⟩ = some (.bool false) := (H.out.blk 4 rfl).cell 0
      have x4_1 : w1.cell? ⟨w.heap.size + 1 + 1 + 1 + 1, 1, none⟩ = some (.bool false) := (H.out.blk 4 rfl).cell 1
      have x4_2 : w1.cell? ⟨w.heap.size + 1 + 1 + 1 + 1, 2, none⟩ = some (.int .i64 0) := (H.out.blk 4 rfl).cell 2
      have x4_3 : w1.cell? ⟨w.heap.size + 1 + 1 + 1 + 1, 3, none⟩ = some (.slice none 0 0) := (H.out.blk 4 rfl).cell 3
      have z3_0 := (H.out.blk 3 rfl).frozen 0
      have z3_1 := (H.out.blk 3 rfl).frozen 1
      have z4_0 := (H.out.blk 4 rfl).frozen 0
      have z4_1 := (H.out.blk 4 rfl).frozen 1
      have z4_2 := (H.out.blk 4 rfl).frozen 2
      have z4_3 := (H.out.blk 4 rfl).frozen 3
      go_wp2_with fail
      replace H := Lib.hid (H.out.kept (kD w1))
      go_region_with (go_at_call 186; refine (l4Wrong_any true false t A2 ws.length c2 _).mono ?_; rintro e wz ⟨rfl, hbz⟩; replace H := Lib.hid (H.out.kept hbz); have hkk : wz.cell? ⟨w.heap.size, 0, none⟩ = some (.int .i64 now) ∧ wz.cell? ⟨w.heap.size, 1, none⟩ = some (.slice A l.length c) ∧ wz.cell? ⟨w.heap.size + 1, 0, none⟩ = some (.bool true) ∧ wz.cell? ⟨w.heap.size + 1, 1, none⟩ = some (.bool false) ∧ wz.cell? ⟨w.heap.size + 1, 2, none⟩ = some (.int .i64 t) ∧ wz.cell? ⟨w.heap.size + 1, 3, none⟩ = some (.slice A2 ws.length c2) ∧ wz.cell? ⟨w.heap.size + 1 + 1 + 1, 0, none⟩ = some (.int .i64 0) ∧ wz.cell? ⟨w.heap.size + 1 + 1 + 1, 1, none⟩ = some (.slice none 0 0) ∧ wz.cell? ⟨w.heap.size + 1 + 1 + 1 + 1, 0, none⟩ = some (.bool false) ∧ wz.cell? ⟨w.heap.size + 1 + 1 + 1 + 1, 1, none⟩ = some (.bool false) ∧ wz.cell? ⟨w.heap.size + 1 + 1 + 1 + 1, 2, none⟩ = some (.int .i64 0) ∧ wz.cell? ⟨w.heap.size + 1 + 1 + 1 + 1, 3, none⟩ = some (.slice none 0 0) := ⟨(H.out.blk 0 rfl).cell 0, (H.out.blk 0 rfl).cell 1, (H.out.blk 1 rfl).cell 0, (H.out.blk 1 rfl).cell 1, (H.out.blk 1 rfl).cell 2, (H.out.blk 1 rfl).cell 3, (H.out.blk 3 rfl).cell 0, (H.out.blk 3 rfl).cell 1, (H.out.blk 4 rfl).cell 0, (H.out.blk 4 rfl).cell 1, (H.out.blk 4 rfl).cell 2, (H.out.blk 4 rfl).cell 3⟩; have hfz := fun j => (H.out.blk 3 rfl).frozen j; have hfz2 := fun j => (H.out.blk 4 rfl).frozen j; clear hbz)
      all_goals
        obtain ⟨x0_0, x0_1, x1_0, x1_1, x1_2, x1_3, x3_0, x3_1, x4_0, x4_1, x4_2, x4_3⟩ := hkk
        go_wp2
        first
        | (have HZ := Lib.hid (SP.set (SP.set (SP.set (SP.set (SP.set (SP.set (H.out) 3 0 (.int .i64 now) rfl (by decide)) 3 1 (.slice A l.length c) rfl (by decide)) 4 0 (.bool true) rfl (by decide)) 4 1 (.bool true) rfl (by decide)) 4 2 (.int .i64 t) rfl (by decide)) 4 3 (.slice A2 ws.length c2) rfl (by decide)); refine bodyPost_ret (v := .tuple #[.agg #[.int .i64 now, .slice A l.length c], .agg #[.bool true, .bool true, .int .i64 t, .slice A2 ws.length c2], .slice (some ⟨w.heap.size + 1 + 1 + 1 + 1 + 1, 0, none⟩) 0 0, .int .i64 4]) ?_ rfl (⟨now, A, l, c, true, true, t, A2, ws, c2, _, [], 0, 4, rfl, HZ.out.get 0 rfl, HZ.out.get 1 rfl, RK.nil _ _, by simp, rowsT_nil, by decide, by decide, HZ.out.below⟩); (simp [results, Try.results183, go_sem, x3_0, x3_1, x4_0, x4_1, x4_2, x4_3]; done))
    have x0_0 : w1.cell? ⟨w.heap.size, 0, none⟩ = some (.int .i64 now) := (H.out.blk 0 rfl).cell 0
    have x0_1 : w1.cell? ⟨w.heap.size, 1, none⟩ = some (.slice A l.length c) := (H.out.blk 0 rfl).cell 1
    have x1_0 : w1.cell? ⟨w.heap.size + 1, 0, none⟩ = some (.bool false) := (H.out.blk 1 rfl).cell 0
    have x1_1 : w1.cell? ⟨w.heap.size + 1, 1, none⟩ = some (.bool false) := (H.out.blk 1 rfl).cell 1
    have x1_2 : w1.cell? ⟨w.heap.size + 1, 2, none⟩ = some (.int .i64 t) := (H.out.blk 1 rfl).cell 2
    have x1_3 : w1.cell? ⟨w.heap.size + 1, 3, none⟩ = some (.slice A2 ws.length c2) := (H.out.blk 1 rfl).cell 3
    have x2_0 : w1.cell? ⟨w.heap.size + 1 + 1, 0, none⟩ = some (.int .i64 7) := (H.out.blk 2 rfl).cell 0
    have x2_1 : w1.cell? ⟨w.heap.size + 1 + 1, 1, none⟩ = some (.string aa) := (H.out.blk 2 rfl).cell 1
    have x2_2 : w1.cell? ⟨w.heap.size + 1 + 1, 2, none⟩ = some (.string ab) := (H.out.blk 2 rfl).cell 2
    have x2_3 : w1.cell? ⟨w.heap.size + 1 + 1, 3, none⟩ = some (.int .i64 an) := (H.out.blk 2 rfl).cell 3
    have x3_0 : w1.cell? ⟨w.heap.size + 1 + 1 + 1, 0, none⟩ = some (.int .i64 0) := (H.out.blk 3 rfl).cell 0
    have x3_1 : w1.cell? ⟨w.heap.size + 1 + 1 + 1, 1, none⟩ = some (.slice none 0 0) := (H.out.blk 3 rfl).cell 1
    have x4_0 : w1.cell? ⟨w.heap.size + 1 + 1 + 1 + 1, 0, none⟩ = some (.bool false) := (H.out.blk 4 rfl).cell 0
    have x4_1 : w1.cell? ⟨w.heap.size + 1 + 1 + 1 + 1, 1, none⟩ = some (.bool false) := (H.out.blk 4 rfl).cell 1
    have x4_2 : w1.cell? ⟨w.heap.size + 1 + 1 + 1 + 1, 2, none⟩ = some (.int .i64 0) := (H.out.blk 4 rfl).cell 2
    have x4_3 : w1.cell? ⟨w.heap.size + 1 + 1 + 1 + 1, 3, none⟩ = some (.slice none 0 0) := (H.out.blk 4 rfl).cell 3
    have z3_0 := (H.out.blk 3 rfl).frozen 0
    have z3_1 := (H.out.blk 3 rfl).frozen 1
    have z4_0 := (H.out.blk 4 rfl).frozen 0
    have z4_1 := (H.out.blk 4 rfl).frozen 1
    have z4_2 := (H.out.blk 4 rfl).frozen 2
    have z4_3 := (H.out.blk 4 rfl).frozen 3
    go_wp2_with fail
    replace H := Lib.hid (H.out.kept (kD w1))
    go_region_with (go_at_call 215; refine (workNew_any A l c now _ (H.out.get 0 rfl)).mono ?_; rintro e wz ⟨t1, A1n, rfl, hbz⟩; replace H := Lib.hid (H.out.kept hbz); have hkk : wz.cell? ⟨w.heap.size, 0, none⟩ = some (.int .i64 now) ∧ wz.cell? ⟨w.heap.size, 1, none⟩ = some (.slice A l.length c) ∧ wz.cell? ⟨w.heap.size + 1 + 1 + 1, 0, none⟩ = some (.int .i64 0) ∧ wz.cell? ⟨w.heap.size + 1 + 1 + 1, 1, none⟩ = some (.slice none 0 0) ∧ wz.cell? ⟨w.heap.size + 1 + 1 + 1 + 1, 0, none⟩ = some (.bool false) ∧ wz.cell? ⟨w.heap.size + 1 + 1 + 1 + 1, 1, none⟩ = some (.bool false) ∧ wz.cell? ⟨w.heap.size + 1 + 1 + 1 + 1, 2, none⟩ = some (.int .i64 0) ∧ wz.cell? ⟨w.heap.size + 1 + 1 + 1 + 1, 3, none⟩ = some (.slice none 0 0) := ⟨(H.out.blk 0 rfl).cell 0, (H.out.blk 0 rfl).cell 1, (H.out.blk 3 rfl).cell 0, (H.out.blk 3 rfl).cell 1, (H.out.blk 4 rfl).cell 0, (H.out.blk 4 rfl).cell 1, (H.out.blk 4 rfl).cell 2, (H.out.blk 4 rfl).cell 3⟩; have hfz := fun j => (H.out.blk 3 rfl).frozen j; have hfz2 := fun j => (H.out.blk 4 rfl).frozen j; clear hbz)
    all_goals
      obtain ⟨x0_0, x0_1, x3_0, x3_1, x4_0, x4_1, x4_2, x4_3⟩ := hkk
      go_wp2
      first
      | (have HZ := Lib.hid (SP.set (SP.set (SP.set (SP.set (SP.set (SP.set (H.out) 3 0 (.int .i64 now) rfl (by decide)) 3 1 (.slice A l.length c) rfl (by decide)) 4 0 (.bool true) rfl (by decide)) 4 1 (.bool false) rfl (by decide)) 4 2 (.int .i64 t1) rfl (by decide)) 4 3 (.slice A1n 0 0) rfl (by decide)); refine bodyPost_ret (v := .tuple #[.agg #[.int .i64 now, .slice A l.length c], .agg #[.bool true, .bool false, .int .i64 t1, .slice A1n 0 0], .slice (some ⟨w.heap.size + 1 + 1 + 1 + 1 + 1, 0, none⟩) 0 0, .int .i64 0]) ?_ rfl (⟨now, A, l, c, true, false, t1, A1n, [], 0, _, [], 0, 0, rfl, HZ.out.get 0 rfl, WK.nil _ _, RK.nil _ _, by simp, rowsT_nil, by decide, by decide, HZ.out.below⟩); (simp [results, Try.results183, go_sem, x3_0, x3_1, x4_0, x4_1, x4_2, x4_3]; done))
  have e7 : (ak == 7) = false := beq_eq_false_iff_ne.2 k7
  by_cases k4 : 4 ≤ ak
  case pos =>
    have x0_0 : w1.cell? ⟨w.heap.size, 0, none⟩ = some (.int .i64 now) := (H.out.blk 0 rfl).cell 0
    have x0_1 : w1.cell? ⟨w.heap.size, 1, none⟩ = some (.slice A l.length c) := (H.out.blk 0 rfl).cell 1
    have x1_0 : w1.cell? ⟨w.heap.size + 1, 0, none⟩ = some (.bool on) := (H.out.blk 1 rfl).cell 0
    have x1_1 : w1.cell? ⟨w.heap.size + 1, 1, none⟩ = some (.bool false) := (H.out.blk 1 rfl).cell 1
    have x1_2 : w1.cell? ⟨w.heap.size + 1, 2, none⟩ = some (.int .i64 t) := (H.out.blk 1 rfl).cell 2
    have x1_3 : w1.cell? ⟨w.heap.size + 1, 3, none⟩ = some (.slice A2 ws.length c2) := (H.out.blk 1 rfl).cell 3
    have x2_0 : w1.cell? ⟨w.heap.size + 1 + 1, 0, none⟩ = some (.int .i64 ak) := (H.out.blk 2 rfl).cell 0
    have x2_1 : w1.cell? ⟨w.heap.size + 1 + 1, 1, none⟩ = some (.string aa) := (H.out.blk 2 rfl).cell 1
    have x2_2 : w1.cell? ⟨w.heap.size + 1 + 1, 2, none⟩ = some (.string ab) := (H.out.blk 2 rfl).cell 2
    have x2_3 : w1.cell? ⟨w.heap.size + 1 + 1, 3, none⟩ = some (.int .i64 an) := (H.out.blk 2 rfl).cell 3
    go_wp2_with fail
    refine (l4Turn_any A l c now on false t A2 ws c2 (ak, aa, ab, an) _ (H.out.get 0 rfl) (H.out.get 1 rfl) HXS.out.1).mono ?_
    rintro e w2 ⟨nw, A5, L5, c5, on5, bad5, t5, A6, W6, c6, d5, rfl, hV5, hW5, hd0, hd1, hb2⟩
    replace H : Hid (SP w [(w.heap.size, 32, #[.int .i64 now, .slice A l.length c]), (w.heap.size + 1, 78, #[.bool on, .bool false, .int .i64 t, .slice A2 ws.length c2]), (w.heap.size + 1 + 1, 128, #[.int .i64 ak, .string aa, .string ab, .int .i64 an]), (w.heap.size + 1 + 1 + 1, 32, #[.int .i64 0, .slice none 0 0]), (w.heap.size + 1 + 1 + 1 + 1, 78, #[.bool false, .bool false, .int .i64 0, .slice none 0 0]), (w.heap.size + 1 + 1 + 1 + 1 + 1, 111, #[])] [fun W => VK W now A l, fun W => WK W A2 ws, fun W => VK W nw A5 L5, fun W => WK W A6 W6] w2) := Lib.hid (SP.add (SP.add (H.out.kept hb2) _ VK.c (hV5)) _ WK.c (hW5))
    clear x0_0 x0_1 x1_0 x1_1 x1_2 x1_3 x2_0 x2_1 x2_2 x2_3 hb2 hV5 hW5
    have hlt4 := (H.out.blk 4 rfl).lt
    have np3 : w2.heap.size ≠ w.heap.size + 1 + 1 + 1 := by omega
    have mp3 : w.heap.size + 1 + 1 + 1 ≠ w2.heap.size := by omega
    have np4 : w2.heap.size ≠ w.heap.size + 1 + 1 + 1 + 1 := by omega
    have mp4 : w.heap.size + 1 + 1 + 1 + 1 ≠ w2.heap.size := by omega
    have nq3 : w2.heap.size + 1 ≠ w.heap.size + 1 + 1 + 1 := by omega
    have mq3 : w.heap.size + 1 + 1 + 1 ≠ w2.heap.size + 1 := by omega
    have nq4 : w2.heap.size + 1 ≠ w.heap.size + 1 + 1 + 1 + 1 := by omega
    have mq4 : w.heap.size + 1 + 1 + 1 + 1 ≠ w2.heap.size + 1 := by omega
    clear hlt4
    replace H : Hid (SP w [(w.heap.size, 32, #[.int .i64 now, .slice A l.length c]), (w.heap.size + 1, 78, #[.bool on, .bool false, .int .i64 t, .slice A2 ws.length c2]), (w.heap.size + 1 + 1, 128, #[.int .i64 ak, .string aa, .string ab, .int .i64 an]), (w.heap.size + 1 + 1 + 1, 32, #[.int .i64 0, .slice none 0 0]), (w.heap.size + 1 + 1 + 1 + 1, 78, #[.bool false, .bool false, .int .i64 0, .slice none 0 0]), (w.heap.size + 1 + 1 + 1 + 1 + 1, 111, #[]), (w2.heap.size, 32, #[.int .i64 nw, .slice A5 L5.length c5]), (w2.heap.size + 1, 78, #[.bool on5, .bool bad5, .int .i64 t5, .slice A6 W6.length c6])] [fun W => VK W now A l, fun W => WK W A2 ws, fun W => VK W nw A5 L5, fun W => WK W A6 W6] (((w2.alloc (.cells #[.int .i64 nw, .slice A5 L5.length c5] 32)).alloc (.cells #[.bool on5, .bool bad5, .int .i64 t5, .slice A6 W6.length c6] 78)))) := Lib.hid (H.out.boxes [(32, #[.int .i64 nw, .slice A5 L5.length c5]), (78, #[.bool on5, .bool bad5, .int .i64 t5, .slice A6 W6.length c6])])
    have x3_0 : ((w2.alloc (.cells #[.int .i64 nw, .slice A5 L5.length c5] 32)).alloc (.cells #[.bool on5, .bool bad5, .int .i64 t5, .slice A6 W6.length c6] 78)).cell? ⟨w.heap.size + 1 + 1 + 1, 0, none⟩ = some (.int .i64 0) := (H.out.blk 3 rfl).cell 0
    have x3_1 : ((w2.alloc (.cells #[.int .i64 nw, .slice A5 L5.length c5] 32)).alloc (.cells #[.bool on5, .bool bad5, .int .i64 t5, .slice A6 W6.length c6] 78)).cell? ⟨w.heap.size + 1 + 1 + 1, 1, none⟩ = some (.slice none 0 0) := (H.out.blk 3 rfl).cell 1
    have x4_0 : ((w2.alloc (.cells #[.int .i64 nw, .slice A5 L5.length c5] 32)).alloc (.cells #[.bool on5, .bool bad5, .int .i64 t5, .slice A6 W6.length c6] 78)).cell? ⟨w.heap.size + 1 + 1 + 1 + 1, 0, none⟩ = some (.bool false) := (H.out.blk 4 rfl).cell 0
    have x4_1 : ((w2.alloc (.cells #[.int .i64 nw, .slice A5 L5.length c5] 32)).alloc (.cells #[.bool on5, .bool bad5, .int .i64 t5, .slice A6 W6.length c6] 78)).cell? ⟨w.heap.size + 1 + 1 + 1 + 1, 1, none⟩ = some (.bool false) := (H.out.blk 4 rfl).cell 1
    have x4_2 : ((w2.alloc (.cells #[.int .i64 nw, .slice A5 L5.length c5] 32)).alloc (.cells #[.bool on5, .bool bad5, .int .i64 t5, .slice A6 W6.length c6] 78)).cell? ⟨w.heap.size + 1 + 1 + 1 + 1, 2, none⟩ = some (.int .i64 0) := (H.out.blk 4 rfl).cell 2
    have x4_3 : ((w2.alloc (.cells #[.int .i64 nw, .slice A5 L5.length c5] 32)).alloc (.cells #[.bool on5, .bool bad5, .int .i64 t5, .slice A6 W6.length c6] 78)).cell? ⟨w.heap.size + 1 + 1 + 1 + 1, 3, none⟩ = some (.slice none 0 0) := (H.out.blk 4 rfl).cell 3
    have z3_0 := (H.out.blk 3 rfl).frozen 0
    have z3_1 := (H.out.blk 3 rfl).frozen 1
    have z4_0 := (H.out.blk 4 rfl).frozen 0
    have z4_1 := (H.out.blk 4 rfl).frozen 1
    have z4_2 := (H.out.blk 4 rfl).frozen 2
    have z4_3 := (H.out.blk 4 rfl).frozen 3
    have HD := Lib.hid (⟨hd0, hd1⟩ : _ ∧ _)
    clear hd0 hd1
    go_wp2_with fail
    go_region
    all_goals
      go_wp2
      first
      | (have HZ := Lib.hid (SP.kept (SP.set (SP.set (SP.set (SP.set (SP.set (SP.set (H.out) 3 0 (.int .i64 nw) rfl (by decide)) 3 1 (.slice A5 L5.length c5) rfl (by decide)) 4 0 (.bool on5) rfl (by decide)) 4 1 (.bool bad5) rfl (by decide)) 4 2 (.int .i64 t5) rfl (by decide)) 4 3 (.slice A6 W6.length c6) rfl (by decide)) (kD _)); refine bodyPost_ret (v := .tuple #[.agg #[.int .i64 nw, .slice A5 L5.length c5], .agg #[.bool on5, .bool bad5, .int .i64 t5, .slice A6 W6.length c6], .slice (some ⟨w.heap.size + 1 + 1 + 1 + 1 + 1, 0, none⟩) 0 0, .int .i64 d5]) ?_ rfl (⟨nw, A5, L5, c5, on5, bad5, t5, A6, W6, c6, _, [], 0, d5, rfl, HZ.out.get 2 rfl, HZ.out.get 3 rfl, RK.nil _ _, by simp, rowsT_nil, HD.out.1, HD.out.2, HZ.out.below⟩); (simp [results, Try.results183, go_sem, x3_0, x3_1, x4_0, x4_1, x4_2, x4_3]; done))
  have x0_0 : w1.cell? ⟨w.heap.size, 0, none⟩ = some (.int .i64 now) := (H.out.blk 0 rfl).cell 0
  have x0_1 : w1.cell? ⟨w.heap.size, 1, none⟩ = some (.slice A l.length c) := (H.out.blk 0 rfl).cell 1
  have x1_0 : w1.cell? ⟨w.heap.size + 1, 0, none⟩ = some (.bool on) := (H.out.blk 1 rfl).cell 0
  have x1_1 : w1.cell? ⟨w.heap.size + 1, 1, none⟩ = some (.bool false) := (H.out.blk 1 rfl).cell 1
  have x1_2 : w1.cell? ⟨w.heap.size + 1, 2, none⟩ = some (.int .i64 t) := (H.out.blk 1 rfl).cell 2
  have x1_3 : w1.cell? ⟨w.heap.size + 1, 3, none⟩ = some (.slice A2 ws.length c2) := (H.out.blk 1 rfl).cell 3
  have x2_0 : w1.cell? ⟨w.heap.size + 1 + 1, 0, none⟩ = some (.int .i64 ak) := (H.out.blk 2 rfl).cell 0
  have x2_1 : w1.cell? ⟨w.heap.size + 1 + 1, 1, none⟩ = some (.string aa) := (H.out.blk 2 rfl).cell 1
  have x2_2 : w1.cell? ⟨w.heap.size + 1 + 1, 2, none⟩ = some (.string ab) := (H.out.blk 2 rfl).cell 2
  have x2_3 : w1.cell? ⟨w.heap.size + 1 + 1, 3, none⟩ = some (.int .i64 an) := (H.out.blk 2 rfl).cell 3
  go_wp2_with fail
  refine (l2At_any A l c now now _ (by omega) (VK.sl (H.out.get 0 rfl))).mono ?_
  rintro e w2 ⟨vr, rfl, hor, hb2⟩
  have hal : (atL l now).length ≤ 70 := by have := atL_le l now; omega
  obtain ⟨Ar, cr, rfl, _, _, _⟩ := OwnR.sl (l := atL l now) hor
  have hrk := RK.of (l := atL l now) hor (atL_size HNN.out.1.1)
  generalize atL l now = rr at *
  replace H : Hid (SP w [(w.heap.size, 32, #[.int .i64 now, .slice A l.length c]), (w.heap.size + 1, 78, #[.bool on, .bool false, .int .i64 t, .slice A2 ws.length c2]), (w.heap.size + 1 + 1, 128, #[.int .i64 ak, .string aa, .string ab, .int .i64 an]), (w.heap.size + 1 + 1 + 1, 32, #[.int .i64 0, .slice none 0 0]), (w.heap.size + 1 + 1 + 1 + 1, 78, #[.bool false, .bool false, .int .i64 0, .slice none 0 0]), (w.heap.size + 1 + 1 + 1 + 1 + 1, 111, #[])] [fun W => VK W now A l, fun W => WK W A2 ws, fun W => RK W Ar rr cr] w2) := Lib.hid (SP.add (H.out.kept hb2) _ RK.c (hrk))
  clear x0_0 x0_1 x1_0 x1_1 x1_2 x1_3 x2_0 x2_1 x2_2 x2_3 hb2 hor hrk
  cases on
  case false =>
    have x1_0 : w2.cell? ⟨w.heap.size + 1, 0, none⟩ = some (.bool false) := (H.out.blk 1 rfl).cell 0
    have x1_1 : w2.cell? ⟨w.heap.size + 1, 1, none⟩ = some (.bool false) := (H.out.blk 1 rfl).cell 1
    have x1_2 : w2.cell? ⟨w.heap.size + 1, 2, none⟩ = some (.int .i64 t) := (H.out.blk 1 rfl).cell 2
    have x1_3 : w2.cell? ⟨w.heap.size + 1, 3, none⟩ = some (.slice A2 ws.length c2) := (H.out.blk 1 rfl).cell 3
    have x2_0 : w2.cell? ⟨w.heap.size + 1 + 1, 0, none⟩ = some (.int .i64 ak) := (H.out.blk 2 rfl).cell 0
    have x2_1 : w2.cell? ⟨w.heap.size + 1 + 1, 1, none⟩ = some (.string aa) := (H.out.blk 2 rfl).cell 1
    have x2_2 : w2.cell? ⟨w.heap.size + 1 + 1, 2, none⟩ = some (.string ab) := (H.out.blk 2 rfl).cell 2
    have x2_3 : w2.cell? ⟨w.heap.size + 1 + 1, 3, none⟩ = some (.int .i64 an) := (H.out.blk 2 rfl).cell 3
    go_wp2_with fail
    refine (l4Told_any Ar rr cr (ak, aa, ab, an) _ hal (H.out.get 2 rfl) HAP.out.2.2.1).mono ?_
    rintro e w4 ⟨A9, r9, c9, d9, rfl, hr9, hr70, hrt, hd0, hd1, hb4⟩
    replace H : Hid (SP w [(w.heap.size, 32, #[.int .i64 now, .slice A l.length c]), (w.heap.size + 1, 78, #[.bool false, .bool false, .int .i64 t, .slice A2 ws.length c2]), (w.heap.size + 1 + 1, 128, #[.int .i64 ak, .string aa, .string ab, .int .i64 an]), (w.heap.size + 1 + 1 + 1, 32, #[.int .i64 0, .slice none 0 0]), (w.heap.size + 1 + 1 + 1 + 1, 78, #[.bool false, .bool false, .int .i64 0, .slice none 0 0]), (w.heap.size + 1 + 1 + 1 + 1 + 1, 111, #[])] [fun W => VK W now A l, fun W => WK W A2 ws, fun W => RK W Ar rr cr, fun W => RK W A9 r9 c9] w4) := Lib.hid (SP.add (H.out.kept hb4) _ RK.c (hr9))
    clear x1_0 x1_1 x1_2 x1_3 x2_0 x2_1 x2_2 x2_3 hb4 hr9
    have HD := Lib.hid (⟨⟨hr70, hrt⟩, hd0, hd1⟩ : (_ ∧ _) ∧ _ ∧ _)
    clear hr70 hrt hd0 hd1
    by_cases hd : d9 = 0
    case neg =>
      have hdi : (d9 == 0) = false := beq_eq_false_iff_ne.2 hd
      have x0_0 : w4.cell? ⟨w.heap.size, 0, none⟩ = some (.int .i64 now) := (H.out.blk 0 rfl).cell 0
      have x0_1 : w4.cell? ⟨w.heap.size, 1, none⟩ = some (.slice A l.length c) := (H.out.blk 0 rfl).cell 1
      have x1_0 : w4.cell? ⟨w.heap.size + 1, 0, none⟩ = some (.bool false) := (H.out.blk 1 rfl).cell 0
      have x1_1 : w4.cell? ⟨w.heap.size + 1, 1, none⟩ = some (.bool false) := (H.out.blk 1 rfl).cell 1
      have x1_2 : w4.cell? ⟨w.heap.size + 1, 2, none⟩ = some (.int .i64 t) := (H.out.blk 1 rfl).cell 2
      have x1_3 : w4.cell? ⟨w.heap.size + 1, 3, none⟩ = some (.slice A2 ws.length c2) := (H.out.blk 1 rfl).cell 3
      have x3_0 : w4.cell? ⟨w.heap.size + 1 + 1 + 1, 0, none⟩ = some (.int .i64 0) := (H.out.blk 3 rfl).cell 0
      have x3_1 : w4.cell? ⟨w.heap.size + 1 + 1 + 1, 1, none⟩ = some (.slice none 0 0) := (H.out.blk 3 rfl).cell 1
      have x4_0 : w4.cell? ⟨w.heap.size + 1 + 1 + 1 + 1, 0, none⟩ = some (.bool false) := (H.out.blk 4 rfl).cell 0
      have x4_1 : w4.cell? ⟨w.heap.size + 1 + 1 + 1 + 1, 1, none⟩ = some (.bool false) := (H.out.blk 4 rfl).cell 1
      have x4_2 : w4.cell? ⟨w.heap.size + 1 + 1 + 1 + 1, 2, none⟩ = some (.int .i64 0) := (H.out.blk 4 rfl).cell 2
      have x4_3 : w4.cell? ⟨w.heap.size + 1 + 1 + 1 + 1, 3, none⟩ = some (.slice none 0 0) := (H.out.blk 4 rfl).cell 3
      have z3_0 := (H.out.blk 3 rfl).frozen 0
      have z3_1 := (H.out.blk 3 rfl).frozen 1
      have z4_0 := (H.out.blk 4 rfl).frozen 0
      have z4_1 := (H.out.blk 4 rfl).frozen 1
      have z4_2 := (H.out.blk 4 rfl).frozen 2
      have z4_3 := (H.out.blk 4 rfl).frozen 3
      go_wp2_with fail
      replace H := Lib.hid (H.out.kept (kD w4))
      go_region_with (go_at_call 186; refine (l4Wrong_any false false t A2 ws.length c2 _).mono ?_; rintro e wz ⟨rfl, hbz⟩; replace H := Lib.hid (H.out.kept hbz); have hkk : wz.cell? ⟨w.heap.size, 0, none⟩ = some (.int .i64 now) ∧ wz.cell? ⟨w.heap.size, 1, none⟩ = some (.slice A l.length c) ∧ wz.cell? ⟨w.heap.size + 1, 0, none⟩ = some (.bool false) ∧ wz.cell? ⟨w.heap.size + 1, 1, none⟩ = some (.bool false) ∧ wz.cell? ⟨w.heap.size + 1, 2, none⟩ = some (.int .i64 t) ∧ wz.cell? ⟨w.heap.size + 1, 3, none⟩ = some (.slice A2 ws.length c2) ∧ wz.cell? ⟨w.heap.size + 1 + 1 + 1, 0, none⟩ = some (.int .i64 0) ∧ wz.cell? ⟨w.heap.size + 1 + 1 + 1, 1, none⟩ = some (.slice none 0 0) ∧ wz.cell? ⟨w.heap.size + 1 + 1 + 1 + 1, 0, none⟩ = some (.bool false) ∧ wz.cell? ⟨w.heap.size + 1 + 1 + 1 + 1, 1, none⟩ = some (.bool false) ∧ wz.cell? ⟨w.heap.size + 1 + 1 + 1 + 1, 2, none⟩ = some (.int .i64 0) ∧ wz.cell? ⟨w.heap.size + 1 + 1 + 1 + 1, 3, none⟩ = some (.slice none 0 0) := ⟨(H.out.blk 0 rfl).cell 0, (H.out.blk 0 rfl).cell 1, (H.out.blk 1 rfl).cell 0, (H.out.blk 1 rfl).cell 1, (H.out.blk 1 rfl).cell 2, (H.out.blk 1 rfl).cell 3, (H.out.blk 3 rfl).cell 0, (H.out.blk 3 rfl).cell 1, (H.out.blk 4 rfl).cell 0, (H.out.blk 4 rfl).cell 1, (H.out.blk 4 rfl).cell 2, (H.out.blk 4 rfl).cell 3⟩; have hfz := fun j => (H.out.blk 3 rfl).frozen j; have hfz2 := fun j => (H.out.blk 4 rfl).frozen j; clear hbz)
      all_goals
        obtain ⟨x0_0, x0_1, x1_0, x1_1, x1_2, x1_3, x3_0, x3_1, x4_0, x4_1, x4_2, x4_3⟩ := hkk
        go_wp2
        first
        | (have HZ := Lib.hid (SP.set (SP.set (SP.set (SP.set (SP.set (SP.set (H.out) 3 0 (.int .i64 now) rfl (by decide)) 3 1 (.slice A l.length c) rfl (by decide)) 4 0 (.bool false) rfl (by decide)) 4 1 (.bool false) rfl (by decide)) 4 2 (.int .i64 t) rfl (by decide)) 4 3 (.slice A2 ws.length c2) rfl (by decide)); refine bodyPost_ret (v := .tuple #[.agg #[.int .i64 now, .slice A l.length c], .agg #[.bool false, .bool false, .int .i64 t, .slice A2 ws.length c2], .slice A9 r9.length c9, .int .i64 d9]) ?_ rfl (⟨now, A, l, c, false, false, t, A2, ws, c2, A9, r9, c9, d9, rfl, HZ.out.get 0 rfl, HZ.out.get 1 rfl, HZ.out.get 3 rfl, HD.out.1.1, HD.out.1.2, HD.out.2.1, HD.out.2.2, HZ.out.below⟩); (simp [results, Try.results183, go_sem, x3_0, x3_1, x4_0, x4_1, x4_2, x4_3]; done))
    subst hd
    have x0_0 : w4.cell? ⟨w.heap.size, 0, none⟩ = some (.int .i64 now) := (H.out.blk 0 rfl).cell 0
    have x0_1 : w4.cell? ⟨w.heap.size, 1, none⟩ = some (.slice A l.length c) := (H.out.blk 0 rfl).cell 1
    have x1_0 : w4.cell? ⟨w.heap.size + 1, 0, none⟩ = some (.bool false) := (H.out.blk 1 rfl).cell 0
    have x1_1 : w4.cell? ⟨w.heap.size + 1, 1, none⟩ = some (.bool false) := (H.out.blk 1 rfl).cell 1
    have x1_2 : w4.cell? ⟨w.heap.size + 1, 2, none⟩ = some (.int .i64 t) := (H.out.blk 1 rfl).cell 2
    have x1_3 : w4.cell? ⟨w.heap.size + 1, 3, none⟩ = some (.slice A2 ws.length c2) := (H.out.blk 1 rfl).cell 3
    have x3_0 : w4.cell? ⟨w.heap.size + 1 + 1 + 1, 0, none⟩ = some (.int .i64 0) := (H.out.blk 3 rfl).cell 0
    have x3_1 : w4.cell? ⟨w.heap.size + 1 + 1 + 1, 1, none⟩ = some (.slice none 0 0) := (H.out.blk 3 rfl).cell 1
    have x4_0 : w4.cell? ⟨w.heap.size + 1 + 1 + 1 + 1, 0, none⟩ = some (.bool false) := (H.out.blk 4 rfl).cell 0
    have x4_1 : w4.cell? ⟨w.heap.size + 1 + 1 + 1 + 1, 1, none⟩ = some (.bool false) := (H.out.blk 4 rfl).cell 1
    have x4_2 : w4.cell? ⟨w.heap.size + 1 + 1 + 1 + 1, 2, none⟩ = some (.int .i64 0) := (H.out.blk 4 rfl).cell 2
    have x4_3 : w4.cell? ⟨w.heap.size + 1 + 1 + 1 + 1, 3, none⟩ = some (.slice none 0 0) := (H.out.blk 4 rfl).cell 3
    have z3_0 := (H.out.blk 3 rfl).frozen 0
    have z3_1 := (H.out.blk 3 rfl).frozen 1
    have z4_0 := (H.out.blk 4 rfl).frozen 0
    have z4_1 := (H.out.blk 4 rfl).frozen 1
    have z4_2 := (H.out.blk 4 rfl).frozen 2
    have z4_3 := (H.out.blk 4 rfl).frozen 3
    go_wp2_with fail
    go_region
    all_goals
      go_wp2
      first
      | (have HZ := Lib.hid (SP.kept (SP.set (SP.set (SP.set (SP.set (SP.set (SP.set (H.out) 3 0 (.int .i64 now) rfl (by decide)) 3 1 (.slice A l.length c) rfl (by decide)) 4 0 (.bool false) rfl (by decide)) 4 1 (.bool false) rfl (by decide)) 4 2 (.int .i64 t) rfl (by decide)) 4 3 (.slice A2 ws.length c2) rfl (by decide)) (kD _)); refine bodyPost_ret (v := .tuple #[.agg #[.int .i64 now, .slice A l.length c], .agg #[.bool false, .bool false, .int .i64 t, .slice A2 ws.length c2], .slice A9 r9.length c9, .int .i64 0]) ?_ rfl (⟨now, A, l, c, false, false, t, A2, ws, c2, A9, r9, c9, 0, rfl, HZ.out.get 0 rfl, HZ.out.get 1 rfl, HZ.out.get 3 rfl, HD.out.1.1, HD.out.1.2, by decide, by decide, HZ.out.below⟩); (simp [results, Try.results183, go_sem, x3_0, x3_1, x4_0, x4_1, x4_2, x4_3]; done))
  have x0_0 : w2.cell? ⟨w.heap.size, 0, none⟩ = some (.int .i64 now) := (H.out.blk 0 rfl).cell 0
  have x0_1 : w2.cell? ⟨w.heap.size, 1, none⟩ = some (.slice A l.length c) := (H.out.blk 0 rfl).cell 1
  have x1_0 : w2.cell? ⟨w.heap.size + 1, 0, none⟩ = some (.bool true) := (H.out.blk 1 rfl).cell 0
  have x1_1 : w2.cell? ⟨w.heap.size + 1, 1, none⟩ = some (.bool false) := (H.out.blk 1 rfl).cell 1
  have x1_2 : w2.cell? ⟨w.heap.size + 1, 2, none⟩ = some (.int .i64 t) := (H.out.blk 1 rfl).cell 2
  have x1_3 : w2.cell? ⟨w.heap.size + 1, 3, none⟩ = some (.slice A2 ws.length c2) := (H.out.blk 1 rfl).cell 3
  go_wp2_with fail
  refine (workRows_any A l c now t A2 ws c2 _ (H.out.get 0 rfl) (H.out.get 1 rfl)).mono ?_
  rintro e w3 ⟨Aw, cw, Bw, rfl, how, hb3⟩
  have hwl := workR_len (now := now) (l := l) (t := t) (ws := ws) hl hw8
  have hrw := RK.of how (workR_size HNN.out.1.1 HNN.out.2.1)
  generalize workR now l t ws = rw at *
  replace H : Hid (SP w [(w.heap.size, 32, #[.int .i64 now, .slice A l.length c]), (w.heap.size + 1, 78, #[.bool true, .bool false, .int .i64 t, .slice A2 ws.length c2]), (w.heap.size + 1 + 1, 128, #[.int .i64 ak, .string aa, .string ab, .int .i64 an]), (w.heap.size + 1 + 1 + 1, 32, #[.int .i64 0, .slice none 0 0]), (w.heap.size + 1 + 1 + 1 + 1, 78, #[.bool false, .bool false, .int .i64 0, .slice none 0 0]), (w.heap.size + 1 + 1 + 1 + 1 + 1, 111, #[])] [fun W => VK W now A l, fun W => WK W A2 ws, fun W => RK W Ar rr cr, fun W => RK W Aw rw cw] w3) := Lib.hid (SP.add (H.out.kept hb3) _ RK.c (hrw))
  clear x0_0 x0_1 x1_0 x1_1 x1_2 x1_3 hb3 how hrw
  have x2_0 : w3.cell? ⟨w.heap.size + 1 + 1, 0, none⟩ = some (.int .i64 ak) := (H.out.blk 2 rfl).cell 0
  have x2_1 : w3.cell? ⟨w.heap.size + 1 + 1, 1, none⟩ = some (.string aa) := (H.out.blk 2 rfl).cell 1
  have x2_2 : w3.cell? ⟨w.heap.size + 1 + 1, 2, none⟩ = some (.string ab) := (H.out.blk 2 rfl).cell 2
  have x2_3 : w3.cell? ⟨w.heap.size + 1 + 1, 3, none⟩ = some (.int .i64 an) := (H.out.blk 2 rfl).cell 3
  go_wp2_with fail
  refine (l4Told_any Aw rw cw (ak, aa, ab, an) _ hwl (H.out.get 3 rfl) HAP.out.2.2.1).mono ?_
  rintro e w4 ⟨A9, r9, c9, d9, rfl, hr9, hr70, hrt, hd0, hd1, hb4⟩
  replace H : Hid (SP w [(w.heap.size, 32, #[.int .i64 now, .slice A l.length c]), (w.heap.size + 1, 78, #[.bool true, .bool false, .int .i64 t, .slice A2 ws.length c2]), (w.heap.size + 1 + 1, 128, #[.int .i64 ak, .string aa, .string ab, .int .i64 an]), (w.heap.size + 1 + 1 + 1, 32, #[.int .i64 0, .slice none 0 0]), (w.heap.size + 1 + 1 + 1 + 1, 78, #[.bool false, .bool false, .int .i64 0, .slice none 0 0]), (w.heap.size + 1 + 1 + 1 + 1 + 1, 111, #[])] [fun W => VK W now A l, fun W => WK W A2 ws, fun W => RK W Ar rr cr, fun W => RK W Aw rw cw, fun W => RK W A9 r9 c9] w4) := Lib.hid (SP.add (H.out.kept hb4) _ RK.c (hr9))
  clear x2_0 x2_1 x2_2 x2_3 hb4 hr9
  have HD := Lib.hid (⟨⟨hr70, hrt⟩, hd0, hd1⟩ : (_ ∧ _) ∧ _ ∧ _)
  clear hr70 hrt hd0 hd1
  by_cases hd : d9 = 0
  case neg =>
    have hdi : (d9 == 0) = false := beq_eq_false_iff_ne.2 hd
    have x0_0 : w4.cell? ⟨w.heap.size, 0, none⟩ = some (.int .i64 now) := (H.out.blk 0 rfl).cell 0
    have x0_1 : w4.cell? ⟨w.heap.size, 1, none⟩ = some (.slice A l.length c) := (H.out.blk 0 rfl).cell 1
    have x1_0 : w4.cell? ⟨w.heap.size + 1, 0, none⟩ = some (.bool true) := (H.out.blk 1 rfl).cell 0
    have x1_1 : w4.cell? ⟨w.heap.size + 1, 1, none⟩ = some (.bool false) := (H.out.blk 1 rfl).cell 1
    have x1_2 : w4.cell? ⟨w.heap.size + 1, 2, none⟩ = some (.int .i64 t) := (H.out.blk 1 rfl).cell 2
    have x1_3 : w4.cell? ⟨w.heap.size + 1, 3, none⟩ = some (.slice A2 ws.length c2) := (H.out.blk 1 rfl).cell 3
    have x3_0 : w4.cell? ⟨w.heap.size + 1 + 1 + 1, 0, none⟩ = some (.int .i64 0) := (H.out.blk 3 rfl).cell 0
    have x3_1 : w4.cell? ⟨w.heap.size + 1 + 1 + 1, 1, none⟩ = some (.slice none 0 0) := (H.out.blk 3 rfl).cell 1
    have x4_0 : w4.cell? ⟨w.heap.size + 1 + 1 + 1 + 1, 0, none⟩ = some (.bool false) := (H.out.blk 4 rfl).cell 0
    have x4_1 : w4.cell? ⟨w.heap.size + 1 + 1 + 1 + 1, 1, none⟩ = some (.bool false) := (H.out.blk 4 rfl).cell 1
    have x4_2 : w4.cell? ⟨w.heap.size + 1 + 1 + 1 + 1, 2, none⟩ = some (.int .i64 0) := (H.out.blk 4 rfl).cell 2
    have x4_3 : w4.cell? ⟨w.heap.size + 1 + 1 + 1 + 1, 3, none⟩ = some (.slice none 0 0) := (H.out.blk 4 rfl).cell 3
    have z3_0 := (H.out.blk 3 rfl).frozen 0
    have z3_1 := (H.out.blk 3 rfl).frozen 1
    have z4_0 := (H.out.blk 4 rfl).frozen 0
    have z4_1 := (H.out.blk 4 rfl).frozen 1
    have z4_2 := (H.out.blk 4 rfl).frozen 2
    have z4_3 := (H.out.blk 4 rfl).frozen 3
    go_wp2_with fail
    replace H := Lib.hid (H.out.kept (kD w4))
    go_region_with (go_at_call 186; refine (l4Wrong_any true false t A2 ws.length c2 _).mono ?_; rintro e wz ⟨rfl, hbz⟩; replace H := Lib.hid (H.out.kept hbz); have hkk : wz.cell? ⟨w.heap.size, 0, none⟩ = some (.int .i64 now) ∧ wz.cell? ⟨w.heap.size, 1, none⟩ = some (.slice A l.length c) ∧ wz.cell? ⟨w.heap.size + 1, 0, none⟩ = some (.bool true) ∧ wz.cell? ⟨w.heap.size + 1, 1, none⟩ = some (.bool false) ∧ wz.cell? ⟨w.heap.size + 1, 2, none⟩ = some (.int .i64 t) ∧ wz.cell? ⟨w.heap.size + 1, 3, none⟩ = some (.slice A2 ws.length c2) ∧ wz.cell? ⟨w.heap.size + 1 + 1 + 1, 0, none⟩ = some (.int .i64 0) ∧ wz.cell? ⟨w.heap.size + 1 + 1 + 1, 1, none⟩ = some (.slice none 0 0) ∧ wz.cell? ⟨w.heap.size + 1 + 1 + 1 + 1, 0, none⟩ = some (.bool false) ∧ wz.cell? ⟨w.heap.size + 1 + 1 + 1 + 1, 1, none⟩ = some (.bool false) ∧ wz.cell? ⟨w.heap.size + 1 + 1 + 1 + 1, 2, none⟩ = some (.int .i64 0) ∧ wz.cell? ⟨w.heap.size + 1 + 1 + 1 + 1, 3, none⟩ = some (.slice none 0 0) := ⟨(H.out.blk 0 rfl).cell 0, (H.out.blk 0 rfl).cell 1, (H.out.blk 1 rfl).cell 0, (H.out.blk 1 rfl).cell 1, (H.out.blk 1 rfl).cell 2, (H.out.blk 1 rfl).cell 3, (H.out.blk 3 rfl).cell 0, (H.out.blk 3 rfl).cell 1, (H.out.blk 4 rfl).cell 0, (H.out.blk 4 rfl).cell 1, (H.out.blk 4 rfl).cell 2, (H.out.blk 4 rfl).cell 3⟩; have hfz := fun j => (H.out.blk 3 rfl).frozen j; have hfz2 := fun j => (H.out.blk 4 rfl).frozen j; clear hbz)
    all_goals
      obtain ⟨x0_0, x0_1, x1_0, x1_1, x1_2, x1_3, x3_0, x3_1, x4_0, x4_1, x4_2, x4_3⟩ := hkk
      go_wp2
      first
      | (have HZ := Lib.hid (SP.set (SP.set (SP.set (SP.set (SP.set (SP.set (H.out) 3 0 (.int .i64 now) rfl (by decide)) 3 1 (.slice A l.length c) rfl (by decide)) 4 0 (.bool true) rfl (by decide)) 4 1 (.bool true) rfl (by decide)) 4 2 (.int .i64 t) rfl (by decide)) 4 3 (.slice A2 ws.length c2) rfl (by decide)); refine bodyPost_ret (v := .tuple #[.agg #[.int .i64 now, .slice A l.length c], .agg #[.bool true, .bool true, .int .i64 t, .slice A2 ws.length c2], .slice A9 r9.length c9, .int .i64 d9]) ?_ rfl (⟨now, A, l, c, true, true, t, A2, ws, c2, A9, r9, c9, d9, rfl, HZ.out.get 0 rfl, HZ.out.get 1 rfl, HZ.out.get 4 rfl, HD.out.1.1, HD.out.1.2, HD.out.2.1, HD.out.2.2, HZ.out.below⟩); (simp [results, Try.results183, go_sem, x3_0, x3_1, x4_0, x4_1, x4_2, x4_3]; done))
  subst hd
  have x0_0 : w4.cell? ⟨w.heap.size, 0, none⟩ = some (.int .i64 now) := (H.out.blk 0 rfl).cell 0
  have x0_1 : w4.cell? ⟨w.heap.size, 1, none⟩ = some (.slice A l.length c) := (H.out.blk 0 rfl).cell 1
  have x1_0 : w4.cell? ⟨w.heap.size + 1, 0, none⟩ = some (.bool true) := (H.out.blk 1 rfl).cell 0
  have x1_1 : w4.cell? ⟨w.heap.size + 1, 1, none⟩ = some (.bool false) := (H.out.blk 1 rfl).cell 1
  have x1_2 : w4.cell? ⟨w.heap.size + 1, 2, none⟩ = some (.int .i64 t) := (H.out.blk 1 rfl).cell 2
  have x1_3 : w4.cell? ⟨w.heap.size + 1, 3, none⟩ = some (.slice A2 ws.length c2) := (H.out.blk 1 rfl).cell 3
  have x3_0 : w4.cell? ⟨w.heap.size + 1 + 1 + 1, 0, none⟩ = some (.int .i64 0) := (H.out.blk 3 rfl).cell 0
  have x3_1 : w4.cell? ⟨w.heap.size + 1 + 1 + 1, 1, none⟩ = some (.slice none 0 0) := (H.out.blk 3 rfl).cell 1
  have x4_0 : w4.cell? ⟨w.heap.size + 1 + 1 + 1 + 1, 0, none⟩ = some (.bool false) := (H.out.blk 4 rfl).cell 0
  have x4_1 : w4.cell? ⟨w.heap.size + 1 + 1 + 1 + 1, 1, none⟩ = some (.bool false) := (H.out.blk 4 rfl).cell 1
  have x4_2 : w4.cell? ⟨w.heap.size + 1 + 1 + 1 + 1, 2, none⟩ = some (.int .i64 0) := (H.out.blk 4 rfl).cell 2
  have x4_3 : w4.cell? ⟨w.heap.size + 1 + 1 + 1 + 1, 3, none⟩ = some (.slice none 0 0) := (H.out.blk 4 rfl).cell 3
  have z3_0 := (H.out.blk 3 rfl).frozen 0
  have z3_1 := (H.out.blk 3 rfl).frozen 1
  have z4_0 := (H.out.blk 4 rfl).frozen 0
  have z4_1 := (H.out.blk 4 rfl).frozen 1
  have z4_2 := (H.out.blk 4 rfl).frozen 2
  have z4_3 := (H.out.blk 4 rfl).frozen 3
  go_wp2_with fail
  go_region
  all_goals
    go_wp2
    first
    | (have HZ := Lib.hid (SP.kept (SP.set (SP.set (SP.set (SP.set (SP.set (SP.set (H.out) 3 0 (.int .i64 now) rfl (by decide)) 3 1 (.slice A l.length c) rfl (by decide)) 4 0 (.bool true) rfl (by decide)) 4 1 (.bool false) rfl (by decide)) 4 2 (.int .i64 t) rfl (by decide)) 4 3 (.slice A2 ws.length c2) rfl (by decide)) (kD _)); refine bodyPost_ret (v := .tuple #[.agg #[.int .i64 now, .slice A l.length c], .agg #[.bool true, .bool false, .int .i64 t, .slice A2 ws.length c2], .slice A9 r9.length c9, .int .i64 0]) ?_ rfl (⟨now, A, l, c, true, false, t, A2, ws, c2, A9, r9, c9, 0, rfl, HZ.out.get 0 rfl, HZ.out.get 1 rfl, HZ.out.get 4 rfl, HD.out.1.1, HD.out.1.2, by decide, by decide, HZ.out.below⟩); (simp [results, Try.results183, go_sem, x3_0, x3_1, x4_0, x4_1, x4_2, x4_3]; done))
end Go.Proofs.Ytpjkcmmmpgncmaa
