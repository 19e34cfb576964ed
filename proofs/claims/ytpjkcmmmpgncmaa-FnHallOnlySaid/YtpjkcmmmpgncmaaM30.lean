import Derived.Deep.RegionHeld3
import Derived.Deep.RegionWith
import Derived.Deep.Cut
import Derived.Deep.DeepCutAuto
import Derived.BigQuiet
import Derived.Test.YtpjkcmmmpgncmaaM02
import Derived.Test.YtpjkcmmmpgncmaaM23
/- The reference's l4Turn: something is done, by oneself or at once. -/
namespace Go.Proofs.Ytpjkcmmmpgncmaa
open Go.RowKit
set_option maxRecDepth 100000 in
set_option maxHeartbeats 16000000 in
theorem l4Turn_any (A : Option Addr) (l : List Ver) (c : Nat) (now : Int) (on bad : Bool) (t : Int) (A2 : Option Addr) (ws : List Wri) (c2 : Nat) (x : AskV) (w : World) (hV : VK w now A l) (hW : WK w A2 ws) (hx : x.2.1.size ≤ maxLen) :
    Calls Try.prog 216 #[.agg #[.int .i64 now, .slice A l.length c], .agg #[.bool on, .bool bad, .int .i64 t, .slice A2 ws.length c2], .agg #[.int .i64 x.1, .string x.2.1, .string x.2.2.1, .int .i64 x.2.2.2]] w (VSPost w) := by
  obtain ⟨ak, aa, ab, an⟩ := x
  simp only at hx ⊢
  have HXS := Lib.hid hx
  have hl : l.length ≤ 60 := hV.2.2.1
  have hw8 : ws.length ≤ 8 := hW.2.2
  have HNN := Lib.hid (⟨hV.2, hW.2⟩ : _ ∧ _)
  have hbE := allocAll_below w [(32, #[.int .i64 now, .slice A l.length c]), (78, #[.bool on, .bool bad, .int .i64 t, .slice A2 ws.length c2]), (128, #[.int .i64 ak, .string aa, .string ab, .int .i64 an]), (32, #[.int .i64 0, .slice none 0 0]), (78, #[.bool false, .bool false, .int .i64 0, .slice none 0 0]), (76, #[.int .i64 t, .slice A2 ws.length c2])]
  have H : Hid (SP w [(w.heap.size, 32, #[.int .i64 now, .slice A l.length c]), (w.heap.size + 1, 78, #[.bool on, .bool bad, .int .i64 t, .slice A2 ws.length c2]), (w.heap.size + 1 + 1, 128, #[.int .i64 ak, .string aa, .string ab, .int .i64 an]), (w.heap.size + 1 + 1 + 1, 32, #[.int .i64 0, .slice none 0 0]), (w.heap.size + 1 + 1 + 1 + 1, 78, #[.bool false, .bool false, .int .i64 0, .slice none 0 0]), (w.heap.size + 1 + 1 + 1 + 1 + 1, 76, #[.int .i64 t, .slice A2 ws.length c2])] [fun W => VK W now A l, fun W => WK W A2 ws] ((allocAll w [(32, #[.int .i64 now, .slice A l.length c]), (78, #[.bool on, .bool bad, .int .i64 t, .slice A2 ws.length c2]), (128, #[.int .i64 ak, .string aa, .string ab, .int .i64 an]), (32, #[.int .i64 0, .slice none 0 0]), (78, #[.bool false, .bool false, .int .i64 0, .slice none 0 0]), (76, #[.int .i64 t, .slice A2 ws.length c2])]))) := Lib.hid (SP.add (SP.add (SP.start w [(32, #[.int .i64 now, .slice A l.length c]), (78, #[.bool on, .bool bad, .int .i64 t, .slice A2 ws.length c2]), (128, #[.int .i64 ak, .string aa, .string ab, .int .i64 an]), (32, #[.int .i64 0, .slice none 0 0]), (78, #[.bool false, .bool false, .int .i64 0, .slice none 0 0]), (76, #[.int .i64 t, .slice A2 ws.length c2])]) _ VK.c (VK.c _ _ (Kp.below hbE) hV)) _ WK.c (WK.c _ _ (Kp.below hbE) hW))
  clear hbE
  go_enter Try.func216, Try.ntmps216
  clear hV hW hx
  obtain ⟨x0_0, x0_1⟩ := Blk.q2 (H.out.blk 0 rfl)
  obtain ⟨x1_0, x1_1, x1_2, x1_3⟩ := Blk.q4 (H.out.blk 1 rfl)
  obtain ⟨x2_0, x2_1, x2_2, x2_3⟩ := Blk.q4 (H.out.blk 2 rfl)
  obtain ⟨x3_0, x3_1⟩ := Blk.q2 (H.out.blk 3 rfl)
  obtain ⟨x4_0, x4_1, x4_2, x4_3⟩ := Blk.q4 (H.out.blk 4 rfl)
  obtain ⟨x5_0, x5_1⟩ := Blk.q2 (H.out.blk 5 rfl)
  cases on
  case true =>
    go_upto_region 4 with fail
    change Code.wp _ _ _ _ (allocAll w [(32, #[.int .i64 now, .slice A l.length c]), (78, #[.bool true, .bool bad, .int .i64 t, .slice A2 ws.length c2]), (128, #[.int .i64 ak, .string aa, .string ab, .int .i64 an]), (32, #[.int .i64 0, .slice none 0 0]), (78, #[.bool false, .bool false, .int .i64 0, .slice none 0 0]), (76, #[.int .i64 t, .slice A2 ws.length c2])])
    generalize (allocAll w [(32, #[.int .i64 now, .slice A l.length c]), (78, #[.bool true, .bool bad, .int .i64 t, .slice A2 ws.length c2]), (128, #[.int .i64 ak, .string aa, .string ab, .int .i64 an]), (32, #[.int .i64 0, .slice none 0 0]), (78, #[.bool false, .bool false, .int .i64 0, .slice none 0 0]), (76, #[.int .i64 t, .slice A2 ws.length c2])]) = w0 at *
    have HWF := Lib.hid (⟨HNN.out.2.1, HNN.out.2.2⟩ : _ ∧ _)
    go_cut [10, 11] (fun v10 v11 wx => ∃ (g6 : Nat) (xk : ByteArray) (xn : Int) (xg : Bool) (d : Int), v10 = .pointer (some ⟨g6, 0, none⟩) ∧ v11 = .int .i64 d ∧ Hid (xk.size ≤ maxLen ∧ 0 ≤ d ∧ d ≤ 6) ∧ Hid (SP w [(w.heap.size, 32, #[.int .i64 now, .slice A l.length c]), (w.heap.size + 1, 78, #[.bool true, .bool bad, .int .i64 t, .slice A2 ws.length c2]), (w.heap.size + 1 + 1, 128, #[.int .i64 ak, .string aa, .string ab, .int .i64 an]), (w.heap.size + 1 + 1 + 1, 32, #[.int .i64 0, .slice none 0 0]), (w.heap.size + 1 + 1 + 1 + 1, 78, #[.bool false, .bool false, .int .i64 0, .slice none 0 0]), (w.heap.size + 1 + 1 + 1 + 1 + 1, 76, #[.int .i64 t, .slice A2 ws.length c2]), (g6, 46, #[.string xk, .int .i64 xn, .bool xg])] [fun W => VK W now A l, fun W => WK W A2 ws] wx))
    case first =>
      have HB := Lib.hid (Below.refl w0.heap.size w0)
      have ne0_w0 : w0.heap.size ≠ w.heap.size := by have := (SP.blk H.out 0 rfl).lt; have := HB.out.size; omega
      have nf0_w0 : w.heap.size ≠ w0.heap.size := by have := (SP.blk H.out 0 rfl).lt; have := HB.out.size; omega
      have ne2_w0 : w0.heap.size ≠ w.heap.size + 1 + 1 := by have := (SP.blk H.out 2 rfl).lt; have := HB.out.size; omega
      have nf2_w0 : w.heap.size + 1 + 1 ≠ w0.heap.size := by have := (SP.blk H.out 2 rfl).lt; have := HB.out.size; omega
      have ne5_w0 : w0.heap.size ≠ w.heap.size + 1 + 1 + 1 + 1 + 1 := by have := (SP.blk H.out 5 rfl).lt; have := HB.out.size; omega
      have nf5_w0 : w.heap.size + 1 + 1 + 1 + 1 + 1 ≠ w0.heap.size := by have := (SP.blk H.out 5 rfl).lt; have := HB.out.size; omega
      go_region_held3 (fun W => W.cell? ⟨w.heap.size, 0, none⟩ = some (.int .i64 now) ∧ W.cell? ⟨w.heap.size, 1, none⟩ = some (.slice A l.length c) ∧ W.cell? ⟨w.heap.size + 1 + 1 + 1 + 1 + 1, 0, none⟩ = some (.int .i64 t) ∧ W.cell? ⟨w.heap.size + 1 + 1 + 1 + 1 + 1, 1, none⟩ = some (.slice A2 ws.length c2) ∧ W.cell? ⟨w.heap.size + 1 + 1, 0, none⟩ = some (.int .i64 ak) ∧ W.cell? ⟨w.heap.size + 1 + 1, 1, none⟩ = some (.string aa) ∧ W.cell? ⟨w.heap.size + 1 + 1, 2, none⟩ = some (.string ab) ∧ W.cell? ⟨w.heap.size + 1 + 1, 3, none⟩ = some (.int .i64 an))
        (first | assumption | go_keep)
        (first
          | (go_at_call 217
             refine (workRows_any A l c now t A2 ws c2 w0.drew (SP.get (H.out.kept (kD w0)) 0 rfl) (SP.get (H.out.kept (kD w0)) 1 rfl)).mono ?_
             rintro e wk ⟨A1, c1, B1, rfl, ho1, hb1⟩
             have HB := Lib.hid (bthen (kD w0) hb1)
             obtain ⟨rs, hrs⟩ : ∃ rs, rs = workR now l t ws := ⟨_, rfl⟩
             rw [← hrs] at ho1 ⊢
             have HR := Lib.hid (show RK wk A1 rs c1 ∧ rs.length ≤ 70 from ⟨RK.of ho1 (by rw [hrs]; exact workR_size HNN.out.1.1 HWF.out.1), by rw [hrs]; exact workR_len hl HWF.out.2⟩)
             have ne0_wk : wk.heap.size ≠ w.heap.size := by have := (SP.blk H.out 0 rfl).lt; have := HB.out.size; omega
             have nf0_wk : w.heap.size ≠ wk.heap.size := by have := (SP.blk H.out 0 rfl).lt; have := HB.out.size; omega
             have ne2_wk : wk.heap.size ≠ w.heap.size + 1 + 1 := by have := (SP.blk H.out 2 rfl).lt; have := HB.out.size; omega
             have nf2_wk : w.heap.size + 1 + 1 ≠ wk.heap.size := by have := (SP.blk H.out 2 rfl).lt; have := HB.out.size; omega
             have ne5_wk : wk.heap.size ≠ w.heap.size + 1 + 1 + 1 + 1 + 1 := by have := (SP.blk H.out 5 rfl).lt; have := HB.out.size; omega
             have nf5_wk : w.heap.size + 1 + 1 + 1 + 1 + 1 ≠ wk.heap.size := by have := (SP.blk H.out 5 rfl).lt; have := HB.out.size; omega
             have hkk : wk.cell? ⟨w.heap.size, 0, none⟩ = some (.int .i64 now) ∧ wk.cell? ⟨w.heap.size, 1, none⟩ = some (.slice A l.length c) ∧ wk.cell? ⟨w.heap.size + 1 + 1 + 1 + 1 + 1, 0, none⟩ = some (.int .i64 t) ∧ wk.cell? ⟨w.heap.size + 1 + 1 + 1 + 1 + 1, 1, none⟩ = some (.slice A2 ws.length c2) ∧ wk.cell? ⟨w.heap.size + 1 + 1, 0, none⟩ = some (.int .i64 ak) ∧ wk.cell? ⟨w.heap.size + 1 + 1, 1, none⟩ = some (.string aa) ∧ wk.cell? ⟨w.heap.size + 1 + 1, 2, none⟩ = some (.string ab) ∧ wk.cell? ⟨w.heap.size + 1 + 1, 3, none⟩ = some (.int .i64 an) := ⟨(SP.blk (H.out.kept HB.out) 0 rfl).cell 0, (SP.blk (H.out.kept HB.out) 0 rfl).cell 1, (SP.blk (H.out.kept HB.out) 5 rfl).cell 0, (SP.blk (H.out.kept HB.out) 5 rfl).cell 1, (SP.blk (H.out.kept HB.out) 2 rfl).cell 0, (SP.blk (H.out.kept HB.out) 2 rfl).cell 1, (SP.blk (H.out.kept HB.out) 2 rfl).cell 2, (SP.blk (H.out.kept HB.out) 2 rfl).cell 3⟩
             clear ho1 hb1 hrs)
          | (go_at_call 217
             refine (workRows_any A l c now t A2 ws c2 (w0.drew.alloc (.cells #[.string ⟨#[]⟩, .int .i64 0, .bool false] 46)) (SP.get (H.out.kept (bthen (kD w0) (kA _ _))) 0 rfl) (SP.get (H.out.kept (bthen (kD w0) (kA _ _))) 1 rfl)).mono ?_
             rintro e wk ⟨A1, c1, B1, rfl, ho1, hb1⟩
             have HB := Lib.hid (bthen (bthen (kD w0) (kA _ _)) hb1)
             have HN : Hid (Blk wk w0.heap.size 46 #[.string ⟨#[]⟩, .int .i64 0, .bool false]) := Lib.hid ((Blk.new w0.drew 46 #[.string ⟨#[]⟩, .int .i64 0, .bool false]).kept hb1)
             have n0 := HN.out.frozen 0
             have n1 := HN.out.frozen 1
             have n2 := HN.out.frozen 2
             have m0 : wk.cell? ⟨w0.heap.size, 0, none⟩ = some (.string ⟨#[]⟩) := HN.out.cell 0
             have m1 : wk.cell? ⟨w0.heap.size, 1, none⟩ = some (.int .i64 0) := HN.out.cell 1
             have m2 : wk.cell? ⟨w0.heap.size, 2, none⟩ = some (.bool false) := HN.out.cell 2
             obtain ⟨rs, hrs⟩ : ∃ rs, rs = workR now l t ws := ⟨_, rfl⟩
             rw [← hrs] at ho1 ⊢
             have HR := Lib.hid (show RK wk A1 rs c1 ∧ rs.length ≤ 70 from ⟨RK.of ho1 (by rw [hrs]; exact workR_size HNN.out.1.1 HWF.out.1), by rw [hrs]; exact workR_len hl HWF.out.2⟩)
             have ne0_wk : wk.heap.size ≠ w.heap.size := by have := (SP.blk H.out 0 rfl).lt; have := HB.out.size; omega
             have nf0_wk : w.heap.size ≠ wk.heap.size := by have := (SP.blk H.out 0 rfl).lt; have := HB.out.size; omega
             have ne2_wk : wk.heap.size ≠ w.heap.size + 1 + 1 := by have := (SP.blk H.out 2 rfl).lt; have := HB.out.size; omega
             have nf2_wk : w.heap.size + 1 + 1 ≠ wk.heap.size := by have := (SP.blk H.out 2 rfl).lt; have := HB.out.size; omega
             have ne5_wk : wk.heap.size ≠ w.heap.size + 1 + 1 + 1 + 1 + 1 := by have := (SP.blk H.out 5 rfl).lt; have := HB.out.size; omega
             have nf5_wk : w.heap.size + 1 + 1 + 1 + 1 + 1 ≠ wk.heap.size := by have := (SP.blk H.out 5 rfl).lt; have := HB.out.size; omega
             have hkk : wk.cell? ⟨w.heap.size, 0, none⟩ = some (.int .i64 now) ∧ wk.cell? ⟨w.heap.size, 1, none⟩ = some (.slice A l.length c) ∧ wk.cell? ⟨w.heap.size + 1 + 1 + 1 + 1 + 1, 0, none⟩ = some (.int .i64 t) ∧ wk.cell? ⟨w.heap.size + 1 + 1 + 1 + 1 + 1, 1, none⟩ = some (.slice A2 ws.length c2) ∧ wk.cell? ⟨w.heap.size + 1 + 1, 0, none⟩ = some (.int .i64 ak) ∧ wk.cell? ⟨w.heap.size + 1 + 1, 1, none⟩ = some (.string aa) ∧ wk.cell? ⟨w.heap.size + 1 + 1, 2, none⟩ = some (.string ab) ∧ wk.cell? ⟨w.heap.size + 1 + 1, 3, none⟩ = some (.int .i64 an) := ⟨(SP.blk (H.out.kept HB.out) 0 rfl).cell 0, (SP.blk (H.out.kept HB.out) 0 rfl).cell 1, (SP.blk (H.out.kept HB.out) 5 rfl).cell 0, (SP.blk (H.out.kept HB.out) 5 rfl).cell 1, (SP.blk (H.out.kept HB.out) 2 rfl).cell 0, (SP.blk (H.out.kept HB.out) 2 rfl).cell 1, (SP.blk (H.out.kept HB.out) 2 rfl).cell 2, (SP.blk (H.out.kept HB.out) 2 rfl).cell 3⟩
             clear ho1 hb1 hrs)
          | (go_at_call 227
             refine (l4Write_any A1 rs c1 (ak, aa, ab, an) wk (by have := HR.out.2; omega) HR.out.1 HXS.out).mono ?_
             rintro e wm ⟨x, d, rfl, hxs, hd0, hd1, hb2⟩
             have HB := Lib.hid (bthen HB.out hb2)
             have HN : Hid (Blk wm w0.heap.size 46 #[.string ⟨#[]⟩, .int .i64 0, .bool false]) := Lib.hid (HN.out.kept hb2)
             clear n0 n1 n2 m0 m1 m2
             have n0 := HN.out.frozen 0
             have n1 := HN.out.frozen 1
             have n2 := HN.out.frozen 2
             have m0 : wm.cell? ⟨w0.heap.size, 0, none⟩ = some (.string ⟨#[]⟩) := HN.out.cell 0
             have m1 : wm.cell? ⟨w0.heap.size, 1, none⟩ = some (.int .i64 0) := HN.out.cell 1
             have m2 : wm.cell? ⟨w0.heap.size, 2, none⟩ = some (.bool false) := HN.out.cell 2
             obtain ⟨xk, xn, xg⟩ := x
             have HD := Lib.hid (⟨hxs, hd0, hd1⟩ : _ ∧ _ ∧ _)
             have hkk : wm.cell? ⟨w.heap.size, 0, none⟩ = some (.int .i64 now) ∧ wm.cell? ⟨w.heap.size, 1, none⟩ = some (.slice A l.length c) ∧ wm.cell? ⟨w.heap.size + 1 + 1 + 1 + 1 + 1, 0, none⟩ = some (.int .i64 t) ∧ wm.cell? ⟨w.heap.size + 1 + 1 + 1 + 1 + 1, 1, none⟩ = some (.slice A2 ws.length c2) ∧ wm.cell? ⟨w.heap.size + 1 + 1, 0, none⟩ = some (.int .i64 ak) ∧ wm.cell? ⟨w.heap.size + 1 + 1, 1, none⟩ = some (.string aa) ∧ wm.cell? ⟨w.heap.size + 1 + 1, 2, none⟩ = some (.string ab) ∧ wm.cell? ⟨w.heap.size + 1 + 1, 3, none⟩ = some (.int .i64 an) := ⟨(SP.blk (H.out.kept HB.out) 0 rfl).cell 0, (SP.blk (H.out.kept HB.out) 0 rfl).cell 1, (SP.blk (H.out.kept HB.out) 5 rfl).cell 0, (SP.blk (H.out.kept HB.out) 5 rfl).cell 1, (SP.blk (H.out.kept HB.out) 2 rfl).cell 0, (SP.blk (H.out.kept HB.out) 2 rfl).cell 1, (SP.blk (H.out.kept HB.out) 2 rfl).cell 2, (SP.blk (H.out.kept HB.out) 2 rfl).cell 3⟩
             clear hb2 hxs hd0 hd1)
          | (go_at_call 227
             refine (l4Write_any A1 rs c1 (ak, aa, ab, an) wk (by have := HR.out.2; omega) HR.out.1 HXS.out).mono ?_
             rintro e wm ⟨x, d, rfl, hxs, hd0, hd1, hb2⟩
             have HB := Lib.hid (bthen HB.out hb2)
             obtain ⟨xk, xn, xg⟩ := x
             have HD := Lib.hid (⟨hxs, hd0, hd1⟩ : _ ∧ _ ∧ _)
             have hkk : wm.cell? ⟨w.heap.size, 0, none⟩ = some (.int .i64 now) ∧ wm.cell? ⟨w.heap.size, 1, none⟩ = some (.slice A l.length c) ∧ wm.cell? ⟨w.heap.size + 1 + 1 + 1 + 1 + 1, 0, none⟩ = some (.int .i64 t) ∧ wm.cell? ⟨w.heap.size + 1 + 1 + 1 + 1 + 1, 1, none⟩ = some (.slice A2 ws.length c2) ∧ wm.cell? ⟨w.heap.size + 1 + 1, 0, none⟩ = some (.int .i64 ak) ∧ wm.cell? ⟨w.heap.size + 1 + 1, 1, none⟩ = some (.string aa) ∧ wm.cell? ⟨w.heap.size + 1 + 1, 2, none⟩ = some (.string ab) ∧ wm.cell? ⟨w.heap.size + 1 + 1, 3, none⟩ = some (.int .i64 an) := ⟨(SP.blk (H.out.kept HB.out) 0 rfl).cell 0, (SP.blk (H.out.kept HB.out) 0 rfl).cell 1, (SP.blk (H.out.kept HB.out) 5 rfl).cell 0, (SP.blk (H.out.kept HB.out) 5 rfl).cell 1, (SP.blk (H.out.kept HB.out) 2 rfl).cell 0, (SP.blk (H.out.kept HB.out) 2 rfl).cell 1, (SP.blk (H.out.kept HB.out) 2 rfl).cell 2, (SP.blk (H.out.kept HB.out) 2 rfl).cell 3⟩
             clear hb2 hxs hd0 hd1)
          | (go_at_call 227
             refine (l4Write_any A1 rs c1 (ak, aa, ab, an) (wk.alloc (.cells #[.string ⟨#[]⟩, .int .i64 0, .bool false] 46)) (by have := HR.out.2; omega) (HR.out.1.kp (Kp.below (kA _ _))) HXS.out).mono ?_
             rintro e wm ⟨x, d, rfl, hxs, hd0, hd1, hb2⟩
             have HLE := Lib.hid HB.out.size
             have HB := Lib.hid (bthen (bthen HB.out (kA _ _)) hb2)
             have HM : Hid (Blk wm wk.heap.size 46 #[.string ⟨#[]⟩, .int .i64 0, .bool false]) := Lib.hid ((Blk.new wk 46 #[.string ⟨#[]⟩, .int .i64 0, .bool false]).kept hb2)
             have n0 := HM.out.frozen 0
             have n1 := HM.out.frozen 1
             have n2 := HM.out.frozen 2
             have m0 : wm.cell? ⟨wk.heap.size, 0, none⟩ = some (.string ⟨#[]⟩) := HM.out.cell 0
             have m1 : wm.cell? ⟨wk.heap.size, 1, none⟩ = some (.int .i64 0) := HM.out.cell 1
             have m2 : wm.cell? ⟨wk.heap.size, 2, none⟩ = some (.bool false) := HM.out.cell 2
             obtain ⟨xk, xn, xg⟩ := x
             have HD := Lib.hid (⟨hxs, hd0, hd1⟩ : _ ∧ _ ∧ _)
             have hkk : wm.cell? ⟨w.heap.size, 0, none⟩ = some (.int .i64 now) ∧ wm.cell? ⟨w.heap.size, 1, none⟩ = some (.slice A l.length c) ∧ wm.cell? ⟨w.heap.size + 1 + 1 + 1 + 1 + 1, 0, none⟩ = some (.int .i64 t) ∧ wm.cell? ⟨w.heap.size + 1 + 1 + 1 + 1 + 1, 1, none⟩ = some (.slice A2 ws.length c2) ∧ wm.cell? ⟨w.heap.size + 1 + 1, 0, none⟩ = some (.int .i64 ak) ∧ wm.cell? ⟨w.heap.size + 1 + 1, 1, none⟩ = some (.string aa) ∧ wm.cell? ⟨w.heap.size + 1 + 1, 2, none⟩ = some (.string ab) ∧ wm.cell? ⟨w.heap.size + 1 + 1, 3, none⟩ = some (.int .i64 an) := ⟨(SP.blk (H.out.kept HB.out) 0 rfl).cell 0, (SP.blk (H.out.kept HB.out) 0 rfl).cell 1, (SP.blk (H.out.kept HB.out) 5 rfl).cell 0, (SP.blk (H.out.kept HB.out) 5 rfl).cell 1, (SP.blk (H.out.kept HB.out) 2 rfl).cell 0, (SP.blk (H.out.kept HB.out) 2 rfl).cell 1, (SP.blk (H.out.kept HB.out) 2 rfl).cell 2, (SP.blk (H.out.kept HB.out) 2 rfl).cell 3⟩
             clear hb2 hxs hd0 hd1))
      all_goals
        clear x0_0 x0_1 x5_0 x5_1 x2_0 x2_1 x2_2 x2_3
        try go_wp2_with fail
        go_meet
        first
        | exact ⟨_, xk, xn, xg, d, rfl, rfl, HD, Lib.hid (SP.addNew H.out (((HB.out.setCell (Nat.le_refl _) _).setCell (Nat.le_refl _) _).setCell (Nat.le_refl _) _) (((HN.out.set_ 0 _).set_ 1 _).set_ 2 _) (Nat.le_refl _))⟩
        | exact ⟨_, xk, xn, xg, d, rfl, rfl, HD, Lib.hid (SP.addNew H.out (((HB.out.setCell HLE.out _).setCell HLE.out _).setCell HLE.out _) (((HM.out.set_ 0 _).set_ 1 _).set_ 2 _) HLE.out)⟩
        | exact ⟨_, xk, xn, xg, d, rfl, rfl, HD, Lib.hid (SP.addNew H.out (bthen HB.out (kA _ _)) (Blk.new wm _ _) HB.out.size)⟩
    case rest =>
      obtain ⟨g6, xk, xn, xg, d, rfl, rfl, HD, HQ⟩ := hcut
      clear H
      have H := Lib.hid HQ.out
      clear HQ x0_0 x0_1 x1_0 x1_1 x1_2 x1_3 x2_0 x2_1 x2_2 x2_3 x3_0 x3_1 x4_0 x4_1 x4_2 x4_3 x5_0 x5_1
      by_cases hd : d = 0
      case neg =>
        have hdi : (d == 0) = false := beq_eq_false_iff_ne.2 hd
        obtain ⟨x0_0, x0_1⟩ := Blk.q2 (H.out.blk 0 rfl)
        obtain ⟨x1_0, x1_1, x1_2, x1_3⟩ := Blk.q4 (H.out.blk 1 rfl)
        obtain ⟨x3_0, x3_1⟩ := Blk.q2 (H.out.blk 3 rfl)
        obtain ⟨x4_0, x4_1, x4_2, x4_3⟩ := Blk.q4 (H.out.blk 4 rfl)
        obtain ⟨z3_0, z3_1⟩ := Blk.z2 (H.out.blk 3 rfl)
        obtain ⟨z4_0, z4_1, z4_2, z4_3⟩ := Blk.z4 (H.out.blk 4 rfl)
        go_wp2_with fail
        replace H := Lib.hid (H.out.kept (kD wc))
        go_region_with (go_at_call 186; refine (l4Wrong_any true bad t A2 ws.length c2 _).mono ?_; rintro e wz ⟨rfl, hbz⟩; replace H := Lib.hid (H.out.kept hbz); have hkk : wz.cell? ⟨w.heap.size, 0, none⟩ = some (.int .i64 now) ∧ wz.cell? ⟨w.heap.size, 1, none⟩ = some (.slice A l.length c) ∧ wz.cell? ⟨w.heap.size + 1, 0, none⟩ = some (.bool true) ∧ wz.cell? ⟨w.heap.size + 1, 1, none⟩ = some (.bool bad) ∧ wz.cell? ⟨w.heap.size + 1, 2, none⟩ = some (.int .i64 t) ∧ wz.cell? ⟨w.heap.size + 1, 3, none⟩ = some (.slice A2 ws.length c2) ∧ wz.cell? ⟨w.heap.size + 1 + 1 + 1, 0, none⟩ = some (.int .i64 0) ∧ wz.cell? ⟨w.heap.size + 1 + 1 + 1, 1, none⟩ = some (.slice none 0 0) ∧ wz.cell? ⟨w.heap.size + 1 + 1 + 1 + 1, 0, none⟩ = some (.bool false) ∧ wz.cell? ⟨w.heap.size + 1 + 1 + 1 + 1, 1, none⟩ = some (.bool false) ∧ wz.cell? ⟨w.heap.size + 1 + 1 + 1 + 1, 2, none⟩ = some (.int .i64 0) ∧ wz.cell? ⟨w.heap.size + 1 + 1 + 1 + 1, 3, none⟩ = some (.slice none 0 0) := ⟨(H.out.blk 0 rfl).cell 0, (H.out.blk 0 rfl).cell 1, (H.out.blk 1 rfl).cell 0, (H.out.blk 1 rfl).cell 1, (H.out.blk 1 rfl).cell 2, (H.out.blk 1 rfl).cell 3, (H.out.blk 3 rfl).cell 0, (H.out.blk 3 rfl).cell 1, (H.out.blk 4 rfl).cell 0, (H.out.blk 4 rfl).cell 1, (H.out.blk 4 rfl).cell 2, (H.out.blk 4 rfl).cell 3⟩; have hfz := fun j => (H.out.blk 3 rfl).frozen j; have hfz2 := fun j => (H.out.blk 4 rfl).frozen j; clear hbz)
        all_goals
          obtain ⟨x0_0, x0_1, x1_0, x1_1, x1_2, x1_3, x3_0, x3_1, x4_0, x4_1, x4_2, x4_3⟩ := hkk
          go_wp2
          first
          | (have HZ := Lib.hid (SP.set (SP.set (SP.set (SP.set (SP.set (SP.set (H.out) 3 0 (.int .i64 now) rfl (by decide)) 3 1 (.slice A l.length c) rfl (by decide)) 4 0 (.bool true) rfl (by decide)) 4 1 (.bool true) rfl (by decide)) 4 2 (.int .i64 t) rfl (by decide)) 4 3 (.slice A2 ws.length c2) rfl (by decide)); refine bodyPost_ret (v := .tuple #[.agg #[.int .i64 now, .slice A l.length c], .agg #[.bool true, .bool true, .int .i64 t, .slice A2 ws.length c2], .int .i64 d]) ?_ rfl (⟨now, A, l, c, true, true, t, A2, ws, c2, d, rfl, HZ.out.get 0 rfl, HZ.out.get 1 rfl, HD.out.2.1, HD.out.2.2, HZ.out.below⟩); (simp [results, Try.results216, go_sem, x3_0, x3_1, x4_0, x4_1, x4_2, x4_3]; done))
      subst hd
      have HXK := Lib.hid HD.out.1
      clear HD
      obtain ⟨x0_0, x0_1⟩ := Blk.q2 (H.out.blk 0 rfl)
      obtain ⟨x5_0, x5_1⟩ := Blk.q2 (H.out.blk 5 rfl)
      obtain ⟨x6_0, x6_1, x6_2⟩ := Blk.q3 (H.out.blk 6 rfl)
      go_wp2_with fail
      refine (workPut_any A l c now t A2 ws c2 (xk, xn, xg) _ (H.out.get 0 rfl) (H.out.get 1 rfl) HXK.out).mono ?_
      rintro e w7 ⟨t7, A7, ws7, c7, d7, rfl, hW7, hd70, hd71, hb7⟩
      replace H : Hid (SP w [(w.heap.size, 32, #[.int .i64 now, .slice A l.length c]), (w.heap.size + 1, 78, #[.bool true, .bool bad, .int .i64 t, .slice A2 ws.length c2]), (w.heap.size + 1 + 1, 128, #[.int .i64 ak, .string aa, .string ab, .int .i64 an]), (w.heap.size + 1 + 1 + 1, 32, #[.int .i64 0, .slice none 0 0]), (w.heap.size + 1 + 1 + 1 + 1, 78, #[.bool false, .bool false, .int .i64 0, .slice none 0 0]), (w.heap.size + 1 + 1 + 1 + 1 + 1, 76, #[.int .i64 t, .slice A2 ws.length c2]), (g6, 46, #[.string xk, .int .i64 xn, .bool xg])] [fun W => VK W now A l, fun W => WK W A2 ws, fun W => WK W A7 ws7] w7) := Lib.hid (SP.add (H.out.kept hb7) _ WK.c (hW7))
      clear x0_0 x0_1 x5_0 x5_1 x6_0 x6_1 x6_2 hb7 hW7
      have H := Lib.hid (H.out.alloc 76 #[.int .i64 t7, .slice A7 ws7.length c7])
      by_cases hd7 : d7 = 0
      case neg =>
        have hdi : (d7 == 0) = false := beq_eq_false_iff_ne.2 hd7
        obtain ⟨x0_0, x0_1⟩ := Blk.q2 (H.out.blk 0 rfl)
        obtain ⟨x1_0, x1_1, x1_2, x1_3⟩ := Blk.q4 (H.out.blk 1 rfl)
        obtain ⟨x3_0, x3_1⟩ := Blk.q2 (H.out.blk 3 rfl)
        obtain ⟨x4_0, x4_1, x4_2, x4_3⟩ := Blk.q4 (H.out.blk 4 rfl)
        obtain ⟨z3_0, z3_1⟩ := Blk.z2 (H.out.blk 3 rfl)
        obtain ⟨z4_0, z4_1, z4_2, z4_3⟩ := Blk.z4 (H.out.blk 4 rfl)
        go_wp2_with fail
        replace H := Lib.hid (H.out.kept (kD (w7.alloc (.cells #[.int .i64 t7, .slice A7 ws7.length c7] 76))))
        go_region_with (go_at_call 186; refine (l4Wrong_any true bad t A2 ws.length c2 _).mono ?_; rintro e wz ⟨rfl, hbz⟩; replace H := Lib.hid (H.out.kept hbz); have hkk : wz.cell? ⟨w.heap.size, 0, none⟩ = some (.int .i64 now) ∧ wz.cell? ⟨w.heap.size, 1, none⟩ = some (.slice A l.length c) ∧ wz.cell? ⟨w.heap.size + 1, 0, none⟩ = some (.bool true) ∧ wz.cell? ⟨w.heap.size + 1, 1, none⟩ = some (.bool bad) ∧ wz.cell? ⟨w.heap.size + 1, 2, none⟩ = some (.int .i64 t) ∧ wz.cell? ⟨w.heap.size + 1, 3, none⟩ = some (.slice A2 ws.length c2) ∧ wz.cell? ⟨w.heap.size + 1 + 1 + 1, 0, none⟩ = some (.int .i64 0) ∧ wz.cell? ⟨w.heap.size + 1 + 1 + 1, 1, none⟩ = some (.slice none 0 0) ∧ wz.cell? ⟨w.heap.size + 1 + 1 + 1 + 1, 0, none⟩ = some (.bool false) ∧ wz.cell? ⟨w.heap.size + 1 + 1 + 1 + 1, 1, none⟩ = some (.bool false) ∧ wz.cell? ⟨w.heap.size + 1 + 1 + 1 + 1, 2, none⟩ = some (.int .i64 0) ∧ wz.cell? ⟨w.heap.size + 1 + 1 + 1 + 1, 3, none⟩ = some (.slice none 0 0) := ⟨(H.out.blk 0 rfl).cell 0, (H.out.blk 0 rfl).cell 1, (H.out.blk 1 rfl).cell 0, (H.out.blk 1 rfl).cell 1, (H.out.blk 1 rfl).cell 2, (H.out.blk 1 rfl).cell 3, (H.out.blk 3 rfl).cell 0, (H.out.blk 3 rfl).cell 1, (H.out.blk 4 rfl).cell 0, (H.out.blk 4 rfl).cell 1, (H.out.blk 4 rfl).cell 2, (H.out.blk 4 rfl).cell 3⟩; have hfz := fun j => (H.out.blk 3 rfl).frozen j; have hfz2 := fun j => (H.out.blk 4 rfl).frozen j; clear hbz)
        all_goals
          obtain ⟨x0_0, x0_1, x1_0, x1_1, x1_2, x1_3, x3_0, x3_1, x4_0, x4_1, x4_2, x4_3⟩ := hkk
          go_wp2
          first
          | (have HZ := Lib.hid (SP.set (SP.set (SP.set (SP.set (SP.set (SP.set (H.out) 3 0 (.int .i64 now) rfl (by decide)) 3 1 (.slice A l.length c) rfl (by decide)) 4 0 (.bool true) rfl (by decide)) 4 1 (.bool true) rfl (by decide)) 4 2 (.int .i64 t) rfl (by decide)) 4 3 (.slice A2 ws.length c2) rfl (by decide)); refine bodyPost_ret (v := .tuple #[.agg #[.int .i64 now, .slice A l.length c], .agg #[.bool true, .bool true, .int .i64 t, .slice A2 ws.length c2], .int .i64 d7]) ?_ rfl (⟨now, A, l, c, true, true, t, A2, ws, c2, d7, rfl, HZ.out.get 0 rfl, HZ.out.get 1 rfl, hd70, by omega, HZ.out.below⟩); (simp [results, Try.results216, go_sem, x3_0, x3_1, x4_0, x4_1, x4_2, x4_3]; done))
      subst hd7
      clear hd70 hd71
      obtain ⟨x1_0, x1_1, x1_2, x1_3⟩ := Blk.q4 (H.out.blk 1 rfl)
      obtain ⟨z1_0, z1_1, z1_2, z1_3⟩ := Blk.z4 (H.out.blk 1 rfl)
      go_wp2_with fail
      have H := Lib.hid (SP.set (SP.set H.out 1 2 (.int .i64 t7) rfl (by decide)) 1 3 (.slice A7 ws7.length c7) rfl (by decide))
      clear x1_0 x1_1 x1_2 x1_3 z1_0 z1_1 z1_2 z1_3
      generalize ((w7.alloc (.cells #[.int .i64 t7, .slice A7 ws7.length c7] 76)).setCell ⟨w.heap.size + 1, 2, none⟩ (.int .i64 t7)).setCell ⟨w.heap.size + 1, 3, none⟩ (.slice A7 ws7.length c7) = w8 at *
      obtain ⟨x0_0, x0_1⟩ := Blk.q2 (H.out.blk 0 rfl)
      obtain ⟨x1_0, x1_1, x1_2, x1_3⟩ := Blk.q4 (H.out.blk 1 rfl)
      obtain ⟨x3_0, x3_1⟩ := Blk.q2 (H.out.blk 3 rfl)
      obtain ⟨x4_0, x4_1, x4_2, x4_3⟩ := Blk.q4 (H.out.blk 4 rfl)
      obtain ⟨z3_0, z3_1⟩ := Blk.z2 (H.out.blk 3 rfl)
      obtain ⟨z4_0, z4_1, z4_2, z4_3⟩ := Blk.z4 (H.out.blk 4 rfl)
      go_region
      all_goals
        go_wp2
        first
        | (have HZ := Lib.hid (SP.kept (SP.set (SP.set (SP.set (SP.set (SP.set (SP.set (H.out) 3 0 (.int .i64 now) rfl (by decide)) 3 1 (.slice A l.length c) rfl (by decide)) 4 0 (.bool true) rfl (by decide)) 4 1 (.bool bad) rfl (by decide)) 4 2 (.int .i64 t7) rfl (by decide)) 4 3 (.slice A7 ws7.length c7) rfl (by decide)) (kD _)); refine bodyPost_ret (v := .tuple #[.agg #[.int .i64 now, .slice A l.length c], .agg #[.bool true, .bool bad, .int .i64 t7, .slice A7 ws7.length c7], .int .i64 0]) ?_ rfl (⟨now, A, l, c, true, bad, t7, A7, ws7, c7, 0, rfl, HZ.out.get 0 rfl, HZ.out.get 2 rfl, by decide, by decide, HZ.out.below⟩); (simp [results, Try.results216, go_sem, x3_0, x3_1, x4_0, x4_1, x4_2, x4_3]; done))
  go_wp2_with fail
  change Calls _ _ _ (allocAll w [(32, #[.int .i64 now, .slice A l.length c]), (78, #[.bool false, .bool bad, .int .i64 t, .slice A2 ws.length c2]), (128, #[.int .i64 ak, .string aa, .string ab, .int .i64 an]), (32, #[.int .i64 0, .slice none 0 0]), (78, #[.bool false, .bool false, .int .i64 0, .slice none 0 0]), (76, #[.int .i64 t, .slice A2 ws.length c2])]) _
  generalize (allocAll w [(32, #[.int .i64 now, .slice A l.length c]), (78, #[.bool false, .bool bad, .int .i64 t, .slice A2 ws.length c2]), (128, #[.int .i64 ak, .string aa, .string ab, .int .i64 an]), (32, #[.int .i64 0, .slice none 0 0]), (78, #[.bool false, .bool false, .int .i64 0, .slice none 0 0]), (76, #[.int .i64 t, .slice A2 ws.length c2])]) = w0 at *
  refine (workNew_any A l c now w0 (H.out.get 0 rfl)).mono ?_
  rintro e w1 ⟨t1, A1n, rfl, hb1⟩
  replace H : Hid (SP w [(w.heap.size, 32, #[.int .i64 now, .slice A l.length c]), (w.heap.size + 1, 78, #[.bool false, .bool bad, .int .i64 t, .slice A2 ws.length c2]), (w.heap.size + 1 + 1, 128, #[.int .i64 ak, .string aa, .string ab, .int .i64 an]), (w.heap.size + 1 + 1 + 1, 32, #[.int .i64 0, .slice none 0 0]), (w.heap.size + 1 + 1 + 1 + 1, 78, #[.bool false, .bool false, .int .i64 0, .slice none 0 0]), (w.heap.size + 1 + 1 + 1 + 1 + 1, 76, #[.int .i64 t, .slice A2 ws.length c2])] [fun W => VK W now A l, fun W => WK W A2 ws, fun W => WK W A1n []] w1) := Lib.hid (SP.add (H.out.kept hb1) _ WK.c (WK.nil _ _))
  clear x0_0 x0_1 x1_0 x1_1 x1_2 x1_3 x2_0 x2_1 x2_2 x2_3 x3_0 x3_1 x4_0 x4_1 x4_2 x4_3 x5_0 x5_1 hb1
  obtain ⟨x5_0, x5_1⟩ := Blk.q2 (H.out.blk 5 rfl)
  obtain ⟨z5_0, z5_1⟩ := Blk.z2 (H.out.blk 5 rfl)
  obtain ⟨x0_0, x0_1⟩ := Blk.q2 (H.out.blk 0 rfl)
  go_upto_region 4 with fail
  have H := Lib.hid (SP.set (SP.set H.out 5 0 (.int .i64 t1) rfl (by decide)) 5 1 (.slice A1n 0 0) rfl (by decide))
  clear x5_0 x5_1 z5_0 z5_1 x0_0 x0_1
  generalize (w1.setCell ⟨w.heap.size + 1 + 1 + 1 + 1 + 1, 0, none⟩ (.int .i64 t1)).setCell ⟨w.heap.size + 1 + 1 + 1 + 1 + 1, 1, none⟩ (.slice A1n 0 0) = w2 at *
  have H : Hid (SP w [(w.heap.size, 32, #[.int .i64 now, .slice A l.length c]), (w.heap.size + 1, 78, #[.bool false, .bool bad, .int .i64 t, .slice A2 ws.length c2]), (w.heap.size + 1 + 1, 128, #[.int .i64 ak, .string aa, .string ab, .int .i64 an]), (w.heap.size + 1 + 1 + 1, 32, #[.int .i64 0, .slice none 0 0]), (w.heap.size + 1 + 1 + 1 + 1, 78, #[.bool false, .bool false, .int .i64 0, .slice none 0 0]), (w.heap.size + 1 + 1 + 1 + 1 + 1, 76, #[.int .i64 t1, .slice A1n 0 0])] [fun W => VK W now A l, fun W => WK W A2 ws, fun W => WK W A1n []] w2) := Lib.hid H.out
  obtain ⟨x0_0, x0_1⟩ := Blk.q2 (H.out.blk 0 rfl)
  obtain ⟨x1_0, x1_1, x1_2, x1_3⟩ := Blk.q4 (H.out.blk 1 rfl)
  obtain ⟨x2_0, x2_1, x2_2, x2_3⟩ := Blk.q4 (H.out.blk 2 rfl)
  obtain ⟨x3_0, x3_1⟩ := Blk.q2 (H.out.blk 3 rfl)
  obtain ⟨x4_0, x4_1, x4_2, x4_3⟩ := Blk.q4 (H.out.blk 4 rfl)
  obtain ⟨x5_0, x5_1⟩ := Blk.q2 (H.out.blk 5 rfl)
  have HWF := Lib.hid (show FitsW ([] : List Wri) ∧ ([] : List Wri).length ≤ 8 from (WK.nil w none).2)
  go_cut [10, 11] (fun v10 v11 wx => ∃ (g6 : Nat) (xk : ByteArray) (xn : Int) (xg : Bool) (d : Int), v10 = .pointer (some ⟨g6, 0, none⟩) ∧ v11 = .int .i64 d ∧ Hid (xk.size ≤ maxLen ∧ 0 ≤ d ∧ d ≤ 6) ∧ Hid (SP w [(w.heap.size, 32, #[.int .i64 now, .slice A l.length c]), (w.heap.size + 1, 78, #[.bool false, .bool bad, .int .i64 t, .slice A2 ws.length c2]), (w.heap.size + 1 + 1, 128, #[.int .i64 ak, .string aa, .string ab, .int .i64 an]), (w.heap.size + 1 + 1 + 1, 32, #[.int .i64 0, .slice none 0 0]), (w.heap.size + 1 + 1 + 1 + 1, 78, #[.bool false, .bool false, .int .i64 0, .slice none 0 0]), (w.heap.size + 1 + 1 + 1 + 1 + 1, 76, #[.int .i64 t1, .slice A1n 0 0]), (g6, 46, #[.string xk, .int .i64 xn, .bool xg])] [fun W => VK W now A l, fun W => WK W A2 ws, fun W => WK W A1n []] wx))
  case first =>
    have HB := Lib.hid (Below.refl w2.heap.size w2)
    have ne0_w2 : w2.heap.size ≠ w.heap.size := by have := (SP.blk H.out 0 rfl).lt; have := HB.out.size; omega
    have nf0_w2 : w.heap.size ≠ w2.heap.size := by have := (SP.blk H.out 0 rfl).lt; have := HB.out.size; omega
    have ne2_w2 : w2.heap.size ≠ w.heap.size + 1 + 1 := by have := (SP.blk H.out 2 rfl).lt; have := HB.out.size; omega
    have nf2_w2 : w.heap.size + 1 + 1 ≠ w2.heap.size := by have := (SP.blk H.out 2 rfl).lt; have := HB.out.size; omega
    have ne5_w2 : w2.heap.size ≠ w.heap.size + 1 + 1 + 1 + 1 + 1 := by have := (SP.blk H.out 5 rfl).lt; have := HB.out.size; omega
    have nf5_w2 : w.heap.size + 1 + 1 + 1 + 1 + 1 ≠ w2.heap.size := by have := (SP.blk H.out 5 rfl).lt; have := HB.out.size; omega
    go_region_held3 (fun W => W.cell? ⟨w.heap.size, 0, none⟩ = some (.int .i64 now) ∧ W.cell? ⟨w.heap.size, 1, none⟩ = some (.slice A l.length c) ∧ W.cell? ⟨w.heap.size + 1 + 1 + 1 + 1 + 1, 0, none⟩ = some (.int .i64 t1) ∧ W.cell? ⟨w.heap.size + 1 + 1 + 1 + 1 + 1, 1, none⟩ = some (.slice A1n 0 0) ∧ W.cell? ⟨w.heap.size + 1 + 1, 0, none⟩ = some (.int .i64 ak) ∧ W.cell? ⟨w.heap.size + 1 + 1, 1, none⟩ = some (.string aa) ∧ W.cell? ⟨w.heap.size + 1 + 1, 2, none⟩ = some (.string ab) ∧ W.cell? ⟨w.heap.size + 1 + 1, 3, none⟩ = some (.int .i64 an))
      (first | assumption | go_keep)
      (first
        | (go_at_call 217
           refine (workRows_any A l c now t1 A1n ([] : List Wri) 0 w2.drew (SP.get (H.out.kept (kD w2)) 0 rfl) (SP.get (H.out.kept (kD w2)) 2 rfl)).mono ?_
           rintro e wk ⟨A1, c1, B1, rfl, ho1, hb1⟩
           have HB := Lib.hid (bthen (kD w2) hb1)
           obtain ⟨rs, hrs⟩ : ∃ rs, rs = workR now l t1 ([] : List Wri) := ⟨_, rfl⟩
           rw [← hrs] at ho1 ⊢
           have HR := Lib.hid (show RK wk A1 rs c1 ∧ rs.length ≤ 70 from ⟨RK.of ho1 (by rw [hrs]; exact workR_size HNN.out.1.1 HWF.out.1), by rw [hrs]; exact workR_len hl HWF.out.2⟩)
           have ne0_wk : wk.heap.size ≠ w.heap.size := by have := (SP.blk H.out 0 rfl).lt; have := HB.out.size; omega
           have nf0_wk : w.heap.size ≠ wk.heap.size := by have := (SP.blk H.out 0 rfl).lt; have := HB.out.size; omega
           have ne2_wk : wk.heap.size ≠ w.heap.size + 1 + 1 := by have := (SP.blk H.out 2 rfl).lt; have := HB.out.size; omega
           have nf2_wk : w.heap.size + 1 + 1 ≠ wk.heap.size := by have := (SP.blk H.out 2 rfl).lt; have := HB.out.size; omega
           have ne5_wk : wk.heap.size ≠ w.heap.size + 1 + 1 + 1 + 1 + 1 := by have := (SP.blk H.out 5 rfl).lt; have := HB.out.size; omega
           have nf5_wk : w.heap.size + 1 + 1 + 1 + 1 + 1 ≠ wk.heap.size := by have := (SP.blk H.out 5 rfl).lt; have := HB.out.size; omega
           have hkk : wk.cell? ⟨w.heap.size, 0, none⟩ = some (.int .i64 now) ∧ wk.cell? ⟨w.heap.size, 1, none⟩ = some (.slice A l.length c) ∧ wk.cell? ⟨w.heap.size + 1 + 1 + 1 + 1 + 1, 0, none⟩ = some (.int .i64 t1) ∧ wk.cell? ⟨w.heap.size + 1 + 1 + 1 + 1 + 1, 1, none⟩ = some (.slice A1n 0 0) ∧ wk.cell? ⟨w.heap.size + 1 + 1, 0, none⟩ = some (.int .i64 ak) ∧ wk.cell? ⟨w.heap.size + 1 + 1, 1, none⟩ = some (.string aa) ∧ wk.cell? ⟨w.heap.size + 1 + 1, 2, none⟩ = some (.string ab) ∧ wk.cell? ⟨w.heap.size + 1 + 1, 3, none⟩ = some (.int .i64 an) := ⟨(SP.blk (H.out.kept HB.out) 0 rfl).cell 0, (SP.blk (H.out.kept HB.out) 0 rfl).cell 1, (SP.blk (H.out.kept HB.out) 5 rfl).cell 0, (SP.blk (H.out.kept HB.out) 5 rfl).cell 1, (SP.blk (H.out.kept HB.out) 2 rfl).cell 0, (SP.blk (H.out.kept HB.out) 2 rfl).cell 1, (SP.blk (H.out.kept HB.out) 2 rfl).cell 2, (SP.blk (H.out.kept HB.out) 2 rfl).cell 3⟩
           clear ho1 hb1 hrs)
        | (go_at_call 217
           refine (workRows_any A l c now t1 A1n ([] : List Wri) 0 (w2.drew.alloc (.cells #[.string ⟨#[]⟩, .int .i64 0, .bool false] 46)) (SP.get (H.out.kept (bthen (kD w2) (kA _ _))) 0 rfl) (SP.get (H.out.kept (bthen (kD w2) (kA _ _))) 2 rfl)).mono ?_
           rintro e wk ⟨A1, c1, B1, rfl, ho1, hb1⟩
           have HB := Lib.hid (bthen (bthen (kD w2) (kA _ _)) hb1)
           have HN : Hid (Blk wk w2.heap.size 46 #[.string ⟨#[]⟩, .int .i64 0, .bool false]) := Lib.hid ((Blk.new w2.drew 46 #[.string ⟨#[]⟩, .int .i64 0, .bool false]).kept hb1)
           have n0 := HN.out.frozen 0
           have n1 := HN.out.frozen 1
           have n2 := HN.out.frozen 2
           have m0 : wk.cell? ⟨w2.heap.size, 0, none⟩ = some (.string ⟨#[]⟩) := HN.out.cell 0
           have m1 : wk.cell? ⟨w2.heap.size, 1, none⟩ = some (.int .i64 0) := HN.out.cell 1
           have m2 : wk.cell? ⟨w2.heap.size, 2, none⟩ = some (.bool false) := HN.out.cell 2
           obtain ⟨rs, hrs⟩ : ∃ rs, rs = workR now l t1 ([] : List Wri) := ⟨_, rfl⟩
           rw [← hrs] at ho1 ⊢
           have HR := Lib.hid (show RK wk A1 rs c1 ∧ rs.length ≤ 70 from ⟨RK.of ho1 (by rw [hrs]; exact workR_size HNN.out.1.1 HWF.out.1), by rw [hrs]; exact workR_len hl HWF.out.2⟩)
           have ne0_wk : wk.heap.size ≠ w.heap.size := by have := (SP.blk H.out 0 rfl).lt; have := HB.out.size; omega
           have nf0_wk : w.heap.size ≠ wk.heap.size := by have := (SP.blk H.out 0 rfl).lt; have := HB.out.size; omega
           have ne2_wk : wk.heap.size ≠ w.heap.size + 1 + 1 := by have := (SP.blk H.out 2 rfl).lt; have := HB.out.size; omega
           have nf2_wk : w.heap.size + 1 + 1 ≠ wk.heap.size := by have := (SP.blk H.out 2 rfl).lt; have := HB.out.size; omega
           have ne5_wk : wk.heap.size ≠ w.heap.size + 1 + 1 + 1 + 1 + 1 := by have := (SP.blk H.out 5 rfl).lt; have := HB.out.size; omega
           have nf5_wk : w.heap.size + 1 + 1 + 1 + 1 + 1 ≠ wk.heap.size := by have := (SP.blk H.out 5 rfl).lt; have := HB.out.size; omega
           have hkk : wk.cell? ⟨w.heap.size, 0, none⟩ = some (.int .i64 now) ∧ wk.cell? ⟨w.heap.size, 1, none⟩ = some (.slice A l.length c) ∧ wk.cell? ⟨w.heap.size + 1 + 1 + 1 + 1 + 1, 0, none⟩ = some (.int .i64 t1) ∧ wk.cell? ⟨w.heap.size + 1 + 1 + 1 + 1 + 1, 1, none⟩ = some (.slice A1n 0 0) ∧ wk.cell? ⟨w.heap.size + 1 + 1, 0, none⟩ = some (.int .i64 ak) ∧ wk.cell? ⟨w.heap.size + 1 + 1, 1, none⟩ = some (.string aa) ∧ wk.cell? ⟨w.heap.size + 1 + 1, 2, none⟩ = some (.string ab) ∧ wk.cell? ⟨w.heap.size + 1 + 1, 3, none⟩ = some (.int .i64 an) := ⟨(SP.blk (H.out.kept HB.out) 0 rfl).cell 0, (SP.blk (H.out.kept HB.out) 0 rfl).cell 1, (SP.blk (H.out.kept HB.out) 5 rfl).cell 0, (SP.blk (H.out.kept HB.out) 5 rfl).cell 1, (SP.blk (H.out.kept HB.out) 2 rfl).cell 0, (SP.blk (H.out.kept HB.out) 2 rfl).cell 1, (SP.blk (H.out.kept HB.out) 2 rfl).cell 2, (SP.blk (H.out.kept HB.out) 2 rfl).cell 3⟩
           clear ho1 hb1 hrs)
        | (go_at_call 227
           refine (l4Write_any A1 rs c1 (ak, aa, ab, an) wk (by have := HR.out.2; omega) HR.out.1 HXS.out).mono ?_
           rintro e wm ⟨x, d, rfl, hxs, hd0, hd1, hb2⟩
           have HB := Lib.hid (bthen HB.out hb2)
           have HN : Hid (Blk wm w2.heap.size 46 #[.string ⟨#[]⟩, .int .i64 0, .bool false]) := Lib.hid (HN.out.kept hb2)
           clear n0 n1 n2 m0 m1 m2
           have n0 := HN.out.frozen 0
           have n1 := HN.out.frozen 1
           have n2 := HN.out.frozen 2
           have m0 : wm.cell? ⟨w2.heap.size, 0, none⟩ = some (.string ⟨#[]⟩) := HN.out.cell 0
           have m1 : wm.cell? ⟨w2.heap.size, 1, none⟩ = some (.int .i64 0) := HN.out.cell 1
           have m2 : wm.cell? ⟨w2.heap.size, 2, none⟩ = some (.bool false) := HN.out.cell 2
           obtain ⟨xk, xn, xg⟩ := x
           have HD := Lib.hid (⟨hxs, hd0, hd1⟩ : _ ∧ _ ∧ _)
           have hkk : wm.cell? ⟨w.heap.size, 0, none⟩ = some (.int .i64 now) ∧ wm.cell? ⟨w.heap.size, 1, none⟩ = some (.slice A l.length c) ∧ wm.cell? ⟨w.heap.size + 1 + 1 + 1 + 1 + 1, 0, none⟩ = some (.int .i64 t1) ∧ wm.cell? ⟨w.heap.size + 1 + 1 + 1 + 1 + 1, 1, none⟩ = some (.slice A1n 0 0) ∧ wm.cell? ⟨w.heap.size + 1 + 1, 0, none⟩ = some (.int .i64 ak) ∧ wm.cell? ⟨w.heap.size + 1 + 1, 1, none⟩ = some (.string aa) ∧ wm.cell? ⟨w.heap.size + 1 + 1, 2, none⟩ = some (.string ab) ∧ wm.cell? ⟨w.heap.size + 1 + 1, 3, none⟩ = some (.int .i64 an) := ⟨(SP.blk (H.out.kept HB.out) 0 rfl).cell 0, (SP.blk (H.out.kept HB.out) 0 rfl).cell 1, (SP.blk (H.out.kept HB.out) 5 rfl).cell 0, (SP.blk (H.out.kept HB.out) 5 rfl).cell 1, (SP.blk (H.out.kept HB.out) 2 rfl).cell 0, (SP.blk (H.out.kept HB.out) 2 rfl).cell 1, (SP.blk (H.out.kept HB.out) 2 rfl).cell 2, (SP.blk (H.out.kept HB.out) 2 rfl).cell 3⟩
           clear hb2 hxs hd0 hd1)
        | (go_at_call 227
           refine (l4Write_any A1 rs c1 (ak, aa, ab, an) wk (by have := HR.out.2; omega) HR.out.1 HXS.out).mono ?_
           rintro e wm ⟨x, d, rfl, hxs, hd0, hd1, hb2⟩
           have HB := Lib.hid (bthen HB.out hb2)
           obtain ⟨xk, xn, xg⟩ := x
           have HD := Lib.hid (⟨hxs, hd0, hd1⟩ : _ ∧ _ ∧ _)
           have hkk : wm.cell? ⟨w.heap.size, 0, none⟩ = some (.int .i64 now) ∧ wm.cell? ⟨w.heap.size, 1, none⟩ = some (.slice A l.length c) ∧ wm.cell? ⟨w.heap.size + 1 + 1 + 1 + 1 + 1, 0, none⟩ = some (.int .i64 t1) ∧ wm.cell? ⟨w.heap.size + 1 + 1 + 1 + 1 + 1, 1, none⟩ = some (.slice A1n 0 0) ∧ wm.cell? ⟨w.heap.size + 1 + 1, 0, none⟩ = some (.int .i64 ak) ∧ wm.cell? ⟨w.heap.size + 1 + 1, 1, none⟩ = some (.string aa) ∧ wm.cell? ⟨w.heap.size + 1 + 1, 2, none⟩ = some (.string ab) ∧ wm.cell? ⟨w.heap.size + 1 + 1, 3, none⟩ = some (.int .i64 an) := ⟨(SP.blk (H.out.kept HB.out) 0 rfl).cell 0, (SP.blk (H.out.kept HB.out) 0 rfl).cell 1, (SP.blk (H.out.kept HB.out) 5 rfl).cell 0, (SP.blk (H.out.kept HB.out) 5 rfl).cell 1, (SP.blk (H.out.kept HB.out) 2 rfl).cell 0, (SP.blk (H.out.kept HB.out) 2 rfl).cell 1, (SP.blk (H.out.kept HB.out) 2 rfl).cell 2, (SP.blk (H.out.kept HB.out) 2 rfl).cell 3⟩
           clear hb2 hxs hd0 hd1)
        | (go_at_call 227
           refine (l4Write_any A1 rs c1 (ak, aa, ab, an) (wk.alloc (.cells #[.string ⟨#[]⟩, .int .i64 0, .bool false] 46)) (by have := HR.out.2; omega) (HR.out.1.kp (Kp.below (kA _ _))) HXS.out).mono ?_
           rintro e wm ⟨x, d, rfl, hxs, hd0, hd1, hb2⟩
           have HLE := Lib.hid HB.out.size
           have HB := Lib.hid (bthen (bthen HB.out (kA _ _)) hb2)
           have HM : Hid (Blk wm wk.heap.size 46 #[.string ⟨#[]⟩, .int .i64 0, .bool false]) := Lib.hid ((Blk.new wk 46 #[.string ⟨#[]⟩, .int .i64 0, .bool false]).kept hb2)
           have n0 := HM.out.frozen 0
           have n1 := HM.out.frozen 1
           have n2 := HM.out.frozen 2
           have m0 : wm.cell? ⟨wk.heap.size, 0, none⟩ = some (.string ⟨#[]⟩) := HM.out.cell 0
           have m1 : wm.cell? ⟨wk.heap.size, 1, none⟩ = some (.int .i64 0) := HM.out.cell 1
           have m2 : wm.cell? ⟨wk.heap.size, 2, none⟩ = some (.bool false) := HM.out.cell 2
           obtain ⟨xk, xn, xg⟩ := x
           have HD := Lib.hid (⟨hxs, hd0, hd1⟩ : _ ∧ _ ∧ _)
           have hkk : wm.cell? ⟨w.heap.size, 0, none⟩ = some (.int .i64 now) ∧ wm.cell? ⟨w.heap.size, 1, none⟩ = some (.slice A l.length c) ∧ wm.cell? ⟨w.heap.size + 1 + 1 + 1 + 1 + 1, 0, none⟩ = some (.int .i64 t1) ∧ wm.cell? ⟨w.heap.size + 1 + 1 + 1 + 1 + 1, 1, none⟩ = some (.slice A1n 0 0) ∧ wm.cell? ⟨w.heap.size + 1 + 1, 0, none⟩ = some (.int .i64 ak) ∧ wm.cell? ⟨w.heap.size + 1 + 1, 1, none⟩ = some (.string aa) ∧ wm.cell? ⟨w.heap.size + 1 + 1, 2, none⟩ = some (.string ab) ∧ wm.cell? ⟨w.heap.size + 1 + 1, 3, none⟩ = some (.int .i64 an) := ⟨(SP.blk (H.out.kept HB.out) 0 rfl).cell 0, (SP.blk (H.out.kept HB.out) 0 rfl).cell 1, (SP.blk (H.out.kept HB.out) 5 rfl).cell 0, (SP.blk (H.out.kept HB.out) 5 rfl).cell 1, (SP.blk (H.out.kept HB.out) 2 rfl).cell 0, (SP.blk (H.out.kept HB.out) 2 rfl).cell 1, (SP.blk (H.out.kept HB.out) 2 rfl).cell 2, (SP.blk (H.out.kept HB.out) 2 rfl).cell 3⟩
           clear hb2 hxs hd0 hd1))
    all_goals
      clear x0_0 x0_1 x5_0 x5_1 x2_0 x2_1 x2_2 x2_3
      try go_wp2_with fail
      go_meet
      first
      | exact ⟨_, xk, xn, xg, d, rfl, rfl, HD, Lib.hid (SP.addNew H.out (((HB.out.setCell (Nat.le_refl _) _).setCell (Nat.le_refl _) _).setCell (Nat.le_refl _) _) (((HN.out.set_ 0 _).set_ 1 _).set_ 2 _) (Nat.le_refl _))⟩
      | exact ⟨_, xk, xn, xg, d, rfl, rfl, HD, Lib.hid (SP.addNew H.out (((HB.out.setCell HLE.out _).setCell HLE.out _).setCell HLE.out _) (((HM.out.set_ 0 _).set_ 1 _).set_ 2 _) HLE.out)⟩
      | exact ⟨_, xk, xn, xg, d, rfl, rfl, HD, Lib.hid (SP.addNew H.out (bthen HB.out (kA _ _)) (Blk.new wm _ _) HB.out.size)⟩
  case rest =>
    obtain ⟨g6, xk, xn, xg, d, rfl, rfl, HD, HQ⟩ := hcut
    clear H
    have H := Lib.hid HQ.out
    clear HQ x0_0 x0_1 x1_0 x1_1 x1_2 x1_3 x2_0 x2_1 x2_2 x2_3 x3_0 x3_1 x4_0 x4_1 x4_2 x4_3 x5_0 x5_1
    by_cases hd : d = 0
    case neg =>
      have hdi : (d == 0) = false := beq_eq_false_iff_ne.2 hd
      obtain ⟨x0_0, x0_1⟩ := Blk.q2 (H.out.blk 0 rfl)
      obtain ⟨x1_0, x1_1, x1_2, x1_3⟩ := Blk.q4 (H.out.blk 1 rfl)
      obtain ⟨x3_0, x3_1⟩ := Blk.q2 (H.out.blk 3 rfl)
      obtain ⟨x4_0, x4_1, x4_2, x4_3⟩ := Blk.q4 (H.out.blk 4 rfl)
      obtain ⟨z3_0, z3_1⟩ := Blk.z2 (H.out.blk 3 rfl)
      obtain ⟨z4_0, z4_1, z4_2, z4_3⟩ := Blk.z4 (H.out.blk 4 rfl)
      go_wp2_with fail
      replace H := Lib.hid (H.out.kept (kD wc))
      go_region_with (go_at_call 186; refine (l4Wrong_any false bad t A2 ws.length c2 _).mono ?_; rintro e wz ⟨rfl, hbz⟩; replace H := Lib.hid (H.out.kept hbz); have hkk : wz.cell? ⟨w.heap.size, 0, none⟩ = some (.int .i64 now) ∧ wz.cell? ⟨w.heap.size, 1, none⟩ = some (.slice A l.length c) ∧ wz.cell? ⟨w.heap.size + 1, 0, none⟩ = some (.bool false) ∧ wz.cell? ⟨w.heap.size + 1, 1, none⟩ = some (.bool bad) ∧ wz.cell? ⟨w.heap.size + 1, 2, none⟩ = some (.int .i64 t) ∧ wz.cell? ⟨w.heap.size + 1, 3, none⟩ = some (.slice A2 ws.length c2) ∧ wz.cell? ⟨w.heap.size + 1 + 1 + 1, 0, none⟩ = some (.int .i64 0) ∧ wz.cell? ⟨w.heap.size + 1 + 1 + 1, 1, none⟩ = some (.slice none 0 0) ∧ wz.cell? ⟨w.heap.size + 1 + 1 + 1 + 1, 0, none⟩ = some (.bool false) ∧ wz.cell? ⟨w.heap.size + 1 + 1 + 1 + 1, 1, none⟩ = some (.bool false) ∧ wz.cell? ⟨w.heap.size + 1 + 1 + 1 + 1, 2, none⟩ = some (.int .i64 0) ∧ wz.cell? ⟨w.heap.size + 1 + 1 + 1 + 1, 3, none⟩ = some (.slice none 0 0) := ⟨(H.out.blk 0 rfl).cell 0, (H.out.blk 0 rfl).cell 1, (H.out.blk 1 rfl).cell 0, (H.out.blk 1 rfl).cell 1, (H.out.blk 1 rfl).cell 2, (H.out.blk 1 rfl).cell 3, (H.out.blk 3 rfl).cell 0, (H.out.blk 3 rfl).cell 1, (H.out.blk 4 rfl).cell 0, (H.out.blk 4 rfl).cell 1, (H.out.blk 4 rfl).cell 2, (H.out.blk 4 rfl).cell 3⟩; have hfz := fun j => (H.out.blk 3 rfl).frozen j; have hfz2 := fun j => (H.out.blk 4 rfl).frozen j; clear hbz)
      all_goals
        obtain ⟨x0_0, x0_1, x1_0, x1_1, x1_2, x1_3, x3_0, x3_1, x4_0, x4_1, x4_2, x4_3⟩ := hkk
        go_wp2
        first
        | (have HZ := Lib.hid (SP.set (SP.set (SP.set (SP.set (SP.set (SP.set (H.out) 3 0 (.int .i64 now) rfl (by decide)) 3 1 (.slice A l.length c) rfl (by decide)) 4 0 (.bool false) rfl (by decide)) 4 1 (.bool false) rfl (by decide)) 4 2 (.int .i64 t) rfl (by decide)) 4 3 (.slice A2 ws.length c2) rfl (by decide)); refine bodyPost_ret (v := .tuple #[.agg #[.int .i64 now, .slice A l.length c], .agg #[.bool false, .bool false, .int .i64 t, .slice A2 ws.length c2], .int .i64 d]) ?_ rfl (⟨now, A, l, c, false, false, t, A2, ws, c2, d, rfl, HZ.out.get 0 rfl, HZ.out.get 1 rfl, HD.out.2.1, HD.out.2.2, HZ.out.below⟩); (simp [results, Try.results216, go_sem, x3_0, x3_1, x4_0, x4_1, x4_2, x4_3]; done))
    subst hd
    have HXK := Lib.hid HD.out.1
    clear HD
    obtain ⟨x0_0, x0_1⟩ := Blk.q2 (H.out.blk 0 rfl)
    obtain ⟨x5_0, x5_1⟩ := Blk.q2 (H.out.blk 5 rfl)
    obtain ⟨x6_0, x6_1, x6_2⟩ := Blk.q3 (H.out.blk 6 rfl)
    go_wp2_with fail
    refine (workPut_any A l c now t1 A1n ([] : List Wri) 0 (xk, xn, xg) _ (H.out.get 0 rfl) (H.out.get 2 rfl) HXK.out).mono ?_
    rintro e w7 ⟨t7, A7, ws7, c7, d7, rfl, hW7, hd70, hd71, hb7⟩
    replace H : Hid (SP w [(w.heap.size, 32, #[.int .i64 now, .slice A l.length c]), (w.heap.size + 1, 78, #[.bool false, .bool bad, .int .i64 t, .slice A2 ws.length c2]), (w.heap.size + 1 + 1, 128, #[.int .i64 ak, .string aa, .string ab, .int .i64 an]), (w.heap.size + 1 + 1 + 1, 32, #[.int .i64 0, .slice none 0 0]), (w.heap.size + 1 + 1 + 1 + 1, 78, #[.bool false, .bool false, .int .i64 0, .slice none 0 0]), (w.heap.size + 1 + 1 + 1 + 1 + 1, 76, #[.int .i64 t1, .slice A1n 0 0]), (g6, 46, #[.string xk, .int .i64 xn, .bool xg])] [fun W => VK W now A l, fun W => WK W A2 ws, fun W => WK W A1n [], fun W => WK W A7 ws7] w7) := Lib.hid (SP.add (H.out.kept hb7) _ WK.c (hW7))
    clear x0_0 x0_1 x5_0 x5_1 x6_0 x6_1 x6_2 hb7 hW7
    have H := Lib.hid (H.out.alloc 76 #[.int .i64 t7, .slice A7 ws7.length c7])
    by_cases hd7 : d7 = 0
    case neg =>
      have hdi : (d7 == 0) = false := beq_eq_false_iff_ne.2 hd7
      obtain ⟨x0_0, x0_1⟩ := Blk.q2 (H.out.blk 0 rfl)
      obtain ⟨x1_0, x1_1, x1_2, x1_3⟩ := Blk.q4 (H.out.blk 1 rfl)
      obtain ⟨x3_0, x3_1⟩ := Blk.q2 (H.out.blk 3 rfl)
      obtain ⟨x4_0, x4_1, x4_2, x4_3⟩ := Blk.q4 (H.out.blk 4 rfl)
      obtain ⟨z3_0, z3_1⟩ := Blk.z2 (H.out.blk 3 rfl)
      obtain ⟨z4_0, z4_1, z4_2, z4_3⟩ := Blk.z4 (H.out.blk 4 rfl)
      go_wp2_with fail
      replace H := Lib.hid (H.out.kept (kD (w7.alloc (.cells #[.int .i64 t7, .slice A7 ws7.length c7] 76))))
      go_region_with (go_at_call 186; refine (l4Wrong_any false bad t A2 ws.length c2 _).mono ?_; rintro e wz ⟨rfl, hbz⟩; replace H := Lib.hid (H.out.kept hbz); have hkk : wz.cell? ⟨w.heap.size, 0, none⟩ = some (.int .i64 now) ∧ wz.cell? ⟨w.heap.size, 1, none⟩ = some (.slice A l.length c) ∧ wz.cell? ⟨w.heap.size + 1, 0, none⟩ = some (.bool false) ∧ wz.cell? ⟨w.heap.size + 1, 1, none⟩ = some (.bool bad) ∧ wz.cell? ⟨w.heap.size + 1, 2, none⟩ = some (.int .i64 t) ∧ wz.cell? ⟨w.heap.size + 1, 3, none⟩ = some (.slice A2 ws.length c2) ∧ wz.cell? ⟨w.heap.size + 1 + 1 + 1, 0, none⟩ = some (.int .i64 0) ∧ wz.cell? ⟨w.heap.size + 1 + 1 + 1, 1, none⟩ = some (.slice none 0 0) ∧ wz.cell? ⟨w.heap.size + 1 + 1 + 1 + 1, 0, none⟩ = some (.bool false) ∧ wz.cell? ⟨w.heap.size + 1 + 1 + 1 + 1, 1, none⟩ = some (.bool false) ∧ wz.cell? ⟨w.heap.size + 1 + 1 + 1 + 1, 2, none⟩ = some (.int .i64 0) ∧ wz.cell? ⟨w.heap.size + 1 + 1 + 1 + 1, 3, none⟩ = some (.slice none 0 0) := ⟨(H.out.blk 0 rfl).cell 0, (H.out.blk 0 rfl).cell 1, (H.out.blk 1 rfl).cell 0, (H.out.blk 1 rfl).cell 1, (H.out.blk 1 rfl).cell 2, (H.out.blk 1 rfl).cell 3, (H.out.blk 3 rfl).cell 0, (H.out.blk 3 rfl).cell 1, (H.out.blk 4 rfl).cell 0, (H.out.blk 4 rfl).cell 1, (H.out.blk 4 rfl).cell 2, (H.out.blk 4 rfl).cell 3⟩; have hfz := fun j => (H.out.blk 3 rfl).frozen j; have hfz2 := fun j => (H.out.blk 4 rfl).frozen j; clear hbz)
      all_goals
        obtain ⟨x0_0, x0_1, x1_0, x1_1, x1_2, x1_3, x3_0, x3_1, x4_0, x4_1, x4_2, x4_3⟩ := hkk
        go_wp2
        first
        | (have HZ := Lib.hid (SP.set (SP.set (SP.set (SP.set (SP.set (SP.set (H.out) 3 0 (.int .i64 now) rfl (by decide)) 3 1 (.slice A l.length c) rfl (by decide)) 4 0 (.bool false) rfl (by decide)) 4 1 (.bool false) rfl (by decide)) 4 2 (.int .i64 t) rfl (by decide)) 4 3 (.slice A2 ws.length c2) rfl (by decide)); refine bodyPost_ret (v := .tuple #[.agg #[.int .i64 now, .slice A l.length c], .agg #[.bool false, .bool false, .int .i64 t, .slice A2 ws.length c2], .int .i64 d7]) ?_ rfl (⟨now, A, l, c, false, false, t, A2, ws, c2, d7, rfl, HZ.out.get 0 rfl, HZ.out.get 1 rfl, hd70, by omega, HZ.out.below⟩); (simp [results, Try.results216, go_sem, x3_0, x3_1, x4_0, x4_1, x4_2, x4_3]; done))
    subst hd7
    clear hd70 hd71
    obtain ⟨x0_0, x0_1⟩ := Blk.q2 (H.out.blk 0 rfl)
    obtain ⟨x1_0, x1_1, x1_2, x1_3⟩ := Blk.q4 (H.out.blk 1 rfl)
    go_wp2_with fail
    refine (workEnd_any A l c now t7 A7 ws7 c7 _ (H.out.get 0 rfl) (H.out.get 3 rfl)).mono ?_
    rintro e w9 ⟨nw, A9, L9, c9, d9, rfl, hV9, hd90, hd91, hb9⟩
    replace H : Hid (SP w [(w.heap.size, 32, #[.int .i64 now, .slice A l.length c]), (w.heap.size + 1, 78, #[.bool false, .bool bad, .int .i64 t, .slice A2 ws.length c2]), (w.heap.size + 1 + 1, 128, #[.int .i64 ak, .string aa, .string ab, .int .i64 an]), (w.heap.size + 1 + 1 + 1, 32, #[.int .i64 0, .slice none 0 0]), (w.heap.size + 1 + 1 + 1 + 1, 78, #[.bool false, .bool false, .int .i64 0, .slice none 0 0]), (w.heap.size + 1 + 1 + 1 + 1 + 1, 76, #[.int .i64 t1, .slice A1n 0 0]), (g6, 46, #[.string xk, .int .i64 xn, .bool xg]), (w7.heap.size, 76, #[.int .i64 t7, .slice A7 ws7.length c7])] [fun W => VK W now A l, fun W => WK W A2 ws, fun W => WK W A1n [], fun W => WK W A7 ws7, fun W => VK W nw A9 L9] w9) := Lib.hid (SP.add (H.out.kept hb9) _ VK.c (hV9))
    clear x0_0 x0_1 x1_0 x1_1 x1_2 x1_3 hb9 hV9
    have H := Lib.hid (H.out.alloc 32 #[.int .i64 nw, .slice A9 L9.length c9])
    obtain ⟨x1_0, x1_1, x1_2, x1_3⟩ := Blk.q4 (H.out.blk 1 rfl)
    obtain ⟨x3_0, x3_1⟩ := Blk.q2 (H.out.blk 3 rfl)
    obtain ⟨x4_0, x4_1, x4_2, x4_3⟩ := Blk.q4 (H.out.blk 4 rfl)
    obtain ⟨z3_0, z3_1⟩ := Blk.z2 (H.out.blk 3 rfl)
    obtain ⟨z4_0, z4_1, z4_2, z4_3⟩ := Blk.z4 (H.out.blk 4 rfl)
    have HD := Lib.hid (show 0 ≤ d9 ∧ d9 ≤ 6 by omega)
    clear hd90 hd91
    go_wp2_with fail
    go_region
    all_goals
      go_wp2
      first
      | (have HZ := Lib.hid (SP.kept (SP.set (SP.set (SP.set (SP.set (SP.set (SP.set (H.out) 3 0 (.int .i64 nw) rfl (by decide)) 3 1 (.slice A9 L9.length c9) rfl (by decide)) 4 0 (.bool false) rfl (by decide)) 4 1 (.bool bad) rfl (by decide)) 4 2 (.int .i64 t) rfl (by decide)) 4 3 (.slice A2 ws.length c2) rfl (by decide)) (kD _)); refine bodyPost_ret (v := .tuple #[.agg #[.int .i64 nw, .slice A9 L9.length c9], .agg #[.bool false, .bool bad, .int .i64 t, .slice A2 ws.length c2], .int .i64 d9]) ?_ rfl (⟨nw, A9, L9, c9, false, bad, t, A2, ws, c2, d9, rfl, HZ.out.get 4 rfl, HZ.out.get 1 rfl, HD.out.1, HD.out.2, HZ.out.below⟩); (simp [results, Try.results216, go_sem, x3_0, x3_1, x4_0, x4_1, x4_2, x4_3]; done))
end Go.Proofs.Ytpjkcmmmpgncmaa
/- The reference's l4Do: what one asks is done. -/
namespace Go.Proofs.Ytpjkcmmmpgncmaa
open Go.RowKit
theorem RK.nil (W : World) (A : Option Addr) : RK W A [] 0 := ⟨SlK.nil _ _, fun y h => absurd h (by simp), Nat.le_refl _, Nat.zero_le _⟩
/-- how l4Do leaves -/
def DoP (w : World) (e : Ending) (w' : World) : Prop :=
  ∃ (now' : Int) (A' : Option Addr) (l' : List Ver) (c' : Nat) (on' bad' : Bool) (t' : Int) (A2' : Option Addr) (ws' : List Wri) (c2' : Nat) (A3 : Option Addr) (rs : List Row) (c3 : Nat) (d : Int),
    e = .returned (.tuple #[.agg #[.int .i64 now', .slice A' l'.length c'], .agg #[.bool on', .bool bad', .int .i64 t', .slice A2' ws'.length c2'], .slice A3 rs.length c3, .int .i64 d]) ∧ VK w' now' A' l' ∧ WK w' A2' ws' ∧ RK w' A3 rs c3 ∧ rs.length ≤ 70 ∧ RowsT rs ∧ 0 ≤ d ∧ d ≤ 6 ∧ Below w.heap.size w w'
set_option maxRecDepth 100000 in
set_option maxHeartbeats 16000000 in
theorem l4Do_any (A : Option Addr) (l : List Ver) (c : Nat) (now : Int) (on bad : Bool) (t : Int) (A2 : Option Addr) (ws : List Wri) (c2 : Nat) (x : AskV) (w : World) (hV : VK w now A l) (hW : WK w A2 ws) (hxa : x.2.1.size ≤ maxLen) (hxb : x.2.2.1.size ≤ maxLen) :
    Calls Try.prog 183 #[.agg #[.int .i64 now, .slice A l.length c], .agg #[.bool on, .bool bad, .int .i64 t, .slice A2 ws.length c2], .agg #[.int .i64 x.1, .string x.2.1, .string x.2.2.1, .int .i64 x.2.2.2]] w (DoP w) := by
  obtain ⟨ak, aa, ab, an⟩ := x
  simp only at hxa hxb ⊢
  have HXS := Lib.hid (⟨hxa, hxb⟩ : _ ∧ _)
  have hl : l.length ≤ 60 := hV.2.2.1
  have hw8 : ws.length ≤ 8 := hW.2.2
  have HNN := Lib.hid (⟨hV.2, hW.2⟩ : _ ∧ _)
  have hbE := allocAll_below w [(32, #[.int .i64 now, .slice A l.length c]), (78, #[.bool on, .bool bad, .int .i64 t, .slice A2 ws.length c2]), (128, #[.int .i64 ak, .string aa, .string ab, .int .i64 an]), (32, #[.int .i64 0, .slice none 0 0]), (78, #[.bool false, .bool false, .int .i64 0, .slice none 0 0]), (111, #[])]
  have H : Hid (SP w [(w.heap.size, 32, #[.int .i64 now, .slice A l.length c]), (w.heap.size + 1, 78, #[.bool on, .bool bad, .int .i64 t, .slice A2 ws.length c2]), (w.heap.size + 1 + 1, 128, #[.int .i64 ak, .string aa, .string ab, .int .i64 an]), (w.heap.size + 1 + 1 + 1, 32, #[.int .i64 0, .slice none 0 0]), (w.heap.size + 1 + 1 + 1 + 1, 78, #[.bool false, .bool false, .int .i64 0, .slice none 0 0]), (w.heap.size + 1 + 1 + 1 + 1 + 1, 111, #[])] [fun W => VK W now A l, fun W => WK W A2 ws] ((allocAll w [(32, #[.int .i64 now, .slice A l.length c]), (78, #[.bool on, .bool bad, .int .i64 t, .slice A2 ws.length c2]), (128, #[.int .i64 ak, .string aa, .string ab, .int .i64 an]), (32, #[.int .i64 0, .slice none 0 0]), (78, #[.bool false, .bool false, .int .i64 0, .slice none 0 0]), (111, #[])]))) := Lib.hid (SP.add (SP.add (SP.start w [(32, #[.int .i64 now, .slice A l.length c]), (78, #[.bool on, .bool bad, .int .i64 t, .slice A2 ws.length c2]), (128, #[.int .i64 ak, .string aa, .string ab, .int .i64 an]), (32, #[.int .i64 0, .slice none 0 0]), (78, #[.bool false, .bool false, .int .i64 0, .slice none 0 0]), (111, #[])]) _ VK.c (VK.c _ _ (Kp.below hbE) hV)) _ WK.c (WK.c _ _ (Kp.below hbE) hW))
  clear hbE
  go_enter Try.func183, Try.ntmps183
  clear hV hW hxa hxb
  obtain ⟨x0_0, x0_1⟩ := Blk.q2 (H.out.blk 0 rfl)
  obtain ⟨x1_0, x1_1, x1_2, x1_3⟩ := Blk.q4 (H.out.blk 1 rfl)
  obtain ⟨x2_0, x2_1, x2_2, x2_3⟩ := Blk.q4 (H.out.blk 2 rfl)
  go_wp2_with fail
  change Calls _ _ _ (allocAll w [(32, #[.int .i64 now, .slice A l.length c]), (78, #[.bool on, .bool bad, .int .i64 t, .slice A2 ws.length c2]), (128, #[.int .i64 ak, .string aa, .string ab, .int .i64 an]), (32, #[.int .i64 0, .slice none 0 0]), (78, #[.bool false, .bool false, .int .i64 0, .slice none 0 0]), (111, #[])]) _
  generalize (allocAll w [(32, #[.int .i64 now, .slice A l.length c]), (78, #[.bool on, .bool bad, .int .i64 t, .slice A2 ws.length c2]), (128, #[.int .i64 ak, .string aa, .string ab, .int .i64 an]), (32, #[.int .i64 0, .slice none 0 0]), (78, #[.bool false, .bool false, .int .i64 0, .slice none 0 0]), (111, #[])]) = w0 at *
  refine (specAskOk_any (ak, aa, ab, an) w0 HXS.out.1 HXS.out.2).mono ?_
  rintro e w1 ⟨v, rfl, hv, hb1⟩
  replace H := Lib.hid (H.out.kept hb1)
  clear x0_0 x0_1 x1_0 x1_1 x1_2 x1_3 x2_0 x2_1 x2_2 x2_3 hb1
  cases v
  case false =>
    clear hv
    obtain ⟨x0_0, x0_1⟩ := Blk.q2 (H.out.blk 0 rfl)
    obtain ⟨x1_0, x1_1, x1_2, x1_3⟩ := Blk.q4 (H.out.blk 1 rfl)
    obtain ⟨x3_0, x3_1⟩ := Blk.q2 (H.out.blk 3 rfl)
    obtain ⟨x4_0, x4_1, x4_2, x4_3⟩ := Blk.q4 (H.out.blk 4 rfl)
    obtain ⟨z3_0, z3_1⟩ := Blk.z2 (H.out.blk 3 rfl)
    obtain ⟨z4_0, z4_1, z4_2, z4_3⟩ := Blk.z4 (H.out.blk 4 rfl)
    go_wp2_with fail
    replace H := Lib.hid (H.out.kept (kD w1))
    go_region_with (go_at_call 186; refine (l4Wrong_any on bad t A2 ws.length c2 _).mono ?_; rintro e wz ⟨rfl, hbz⟩; replace H := Lib.hid (H.out.kept hbz); have hkk : wz.cell? ⟨w.heap.size, 0, none⟩ = some (.int .i64 now) ∧ wz.cell? ⟨w.heap.size, 1, none⟩ = some (.slice A l.length c) ∧ wz.cell? ⟨w.heap.size + 1, 0, none⟩ = some (.bool on) ∧ wz.cell? ⟨w.heap.size + 1, 1, none⟩ = some (.bool bad) ∧ wz.cell? ⟨w.heap.size + 1, 2, none⟩ = some (.int .i64 t) ∧ wz.cell? ⟨w.heap.size + 1, 3, none⟩ = some (.slice A2 ws.length c2) ∧ wz.cell? ⟨w.heap.size + 1 + 1 + 1, 0, none⟩ = some (.int .i64 0) ∧ wz.cell? ⟨w.heap.size + 1 + 1 + 1, 1, none⟩ = some (.slice none 0 0) ∧ wz.cell? ⟨w.heap.size + 1 + 1 + 1 + 1, 0, none⟩ = some (.bool false) ∧ wz.cell? ⟨w.heap.size + 1 + 1 + 1 + 1, 1, none⟩ = some (.bool false) ∧ wz.cell? ⟨w.heap.size + 1 + 1 + 1 + 1, 2, none⟩ = some (.int .i64 0) ∧ wz.cell? ⟨w.heap.size + 1 + 1 + 1 + 1, 3, none⟩ = some (.slice none 0 0) := ⟨(H.out.blk 0 rfl).cell 0, (H.out.blk 0 rfl).cell 1, (H.out.blk 1 rfl).cell 0, (H.out.blk 1 rfl).cell 1, (H.out.blk 1 rfl).cell 2, (H.out.blk 1 rfl).cell 3, (H.out.blk 3 rfl).cell 0, (H.out.blk 3 rfl).cell 1, (H.out.blk 4 rfl).cell 0, (H.out.blk 4 rfl).cell 1, (H.out.blk 4 rfl).cell 2, (H.out.blk 4 rfl).cell 3⟩; have hfz := fun j => (H.out.blk 3 rfl).frozen j; have hfz2 := fun j => (H.out.blk 4 rfl).frozen j; clear hbz)
    all_goals
      obtain ⟨x0_0, x0_1, x1_0, x1_1, x1_2, x1_3, x3_0, x3_1, x4_0, x4_1, x4_2, x4_3⟩ := hkk
      go_wp2
      first
      | (have HZ := Lib.hid (SP.set (SP.set (SP.set (SP.set (SP.set (SP.set (H.out) 3 0 (.int .i64 now) rfl (by decide)) 3 1 (.slice A l.length c) rfl (by decide)) 4 0 (.bool on) rfl (by decide)) 4 1 (.bool on) rfl (by decide)) 4 2 (.int .i64 t) rfl (by decide)) 4 3 (.slice A2 ws.length c2) rfl (by decide)); refine bodyPost_ret (v := .tuple #[.agg #[.int .i64 now, .slice A l.length c], .agg #[.bool on, .bool on, .int .i64 t, .slice A2 ws.length c2], .slice (some ⟨w.heap.size + 1 + 1 + 1 + 1 + 1, 0, none⟩) 0 0, .int .i64 1]) ?_ rfl (⟨now, A, l, c, on, on, t, A2, ws, c2, _, [], 0, 1, rfl, HZ.out.get 0 rfl, HZ.out.get 1 rfl, RK.nil _ _, by simp, rowsT_nil, by decide, by decide, HZ.out.below⟩); (simp [results, Try.results183, go_sem, x3_0, x3_1, x4_0, x4_1, x4_2, x4_3]; done))
  have HAP := Lib.hid (hv rfl)
  clear hv
  by_cases k8 : ak = 8
  case pos =>
    subst k8
    obtain ⟨x0_0, x0_1⟩ := Blk.q2 (H.out.blk 0 rfl)
    obtain ⟨x1_0, x1_1, x1_2, x1_3⟩ := Blk.q4 (H.out.blk 1 rfl)
    obtain ⟨x2_0, x2_1, x2_2, x2_3⟩ := Blk.q4 (H.out.blk 2 rfl)
    obtain ⟨x3_0, x3_1⟩ := Blk.q2 (H.out.blk 3 rfl)
    obtain ⟨x4_0, x4_1, x4_2, x4_3⟩ := Blk.q4 (H.out.blk 4 rfl)
    obtain ⟨z3_0, z3_1⟩ := Blk.z2 (H.out.blk 3 rfl)
    obtain ⟨z4_0, z4_1, z4_2, z4_3⟩ := Blk.z4 (H.out.blk 4 rfl)
    go_wp2_with fail
    refine (l4Ends_any A l c now on bad t A2 ws c2 8 _ (H.out.get 0 rfl) (H.out.get 1 rfl)).mono ?_
    rintro e w2 ⟨nw, A5, L5, c5, on5, bad5, t5, A6, W6, c6, d5, rfl, hV5, hW5, hd0, hd1, hb2⟩
    replace H : Hid (SP w [(w.heap.size, 32, #[.int .i64 now, .slice A l.length c]), (w.heap.size + 1, 78, #[.bool on, .bool bad, .int .i64 t, .slice A2 ws.length c2]), (w.heap.size + 1 + 1, 128, #[.int .i64 8, .string aa, .string ab, .int .i64 an]), (w.heap.size + 1 + 1 + 1, 32, #[.int .i64 0, .slice none 0 0]), (w.heap.size + 1 + 1 + 1 + 1, 78, #[.bool false, .bool false, .int .i64 0, .slice none 0 0]), (w.heap.size + 1 + 1 + 1 + 1 + 1, 111, #[])] [fun W => VK W now A l, fun W => WK W A2 ws, fun W => VK W nw A5 L5, fun W => WK W A6 W6] w2) := Lib.hid (SP.add (SP.add (H.out.kept hb2) _ VK.c (hV5)) _ WK.c (hW5))
    clear x0_0 x0_1 x1_0 x1_1 x1_2 x1_3 x2_0 x2_1 x2_2 x2_3 x3_0 x3_1 x4_0 x4_1 x4_2 x4_3 z3_0 z3_1 z4_0 z4_1 z4_2 z4_3 hb2 hV5 hW5
    have hlt4 := (H.out.blk 4 rfl).lt
    have np3 : w2.heap.size ≠ w.heap.size + 1 + 1 + 1 := by omega
    have mp3 : w.heap.size + 1 + 1 + 1 ≠ w2.heap.size := by omega
    have np4 : w2.heap.size ≠ w.heap.size + 1 + 1 + 1 + 1 := by omega
    have mp4 : w.heap.size + 1 + 1 + 1 + 1 ≠ w2.heap.size := by omega
    have nq3 : w2.heap.size + 1 ≠ w.heap.size + 1 + 1 + 1 := by omega
    have mq3 : w.heap.size + 1 + 1 + 1 ≠ w2.heap.size + 1 := by omega
    have nq4 : w2.heap.size + 1 ≠ w.heap.size + 1 + 1 + 1 + 1 := by omega
    have mq4 : w.heap.size + 1 + 1 + 1 + 1 ≠ w2.heap.size + 1 := by omega
    clear hlt4
    replace H : Hid (SP w [(w.heap.size, 32, #[.int .i64 now, .slice A l.length c]), (w.heap.size + 1, 78, #[.bool on, .bool bad, .int .i64 t, .slice A2 ws.length c2]), (w.heap.size + 1 + 1, 128, #[.int .i64 8, .string aa, .string ab, .int .i64 an]), (w.heap.size + 1 + 1 + 1, 32, #[.int .i64 0, .slice none 0 0]), (w.heap.size + 1 + 1 + 1 + 1, 78, #[.bool false, .bool false, .int .i64 0, .slice none 0 0]), (w.heap.size + 1 + 1 + 1 + 1 + 1, 111, #[]), (w2.heap.size, 32, #[.int .i64 nw, .slice A5 L5.length c5]), (w2.heap.size + 1, 78, #[.bool on5, .bool bad5, .int .i64 t5, .slice A6 W6.length c6])] [fun W => VK W now A l, fun W => WK W A2 ws, fun W => VK W nw A5 L5, fun W => WK W A6 W6] (((w2.alloc (.cells #[.int .i64 nw, .slice A5 L5.length c5] 32)).alloc (.cells #[.bool on5, .bool bad5, .int .i64 t5, .slice A6 W6.length c6] 78)))) := Lib.hid (H.out.boxes [(32, #[.int .i64 nw, .slice A5 L5.length c5]), (78, #[.bool on5, .bool bad5, .int .i64 t5, .slice A6 W6.length c6])])
    obtain ⟨x3_0, x3_1⟩ := Blk.q2 (H.out.blk 3 rfl)
    obtain ⟨x4_0, x4_1, x4_2, x4_3⟩ := Blk.q4 (H.out.blk 4 rfl)
    obtain ⟨z3_0, z3_1⟩ := Blk.z2 (H.out.blk 3 rfl)
    obtain ⟨z4_0, z4_1, z4_2, z4_3⟩ := Blk.z4 (H.out.blk 4 rfl)
    have HD := Lib.hid (⟨hd0, hd1⟩ : _ ∧ _)
    clear hd0 hd1
    go_wp2_with fail
    go_region
    all_goals
      go_wp2
      first
      | (have HZ := Lib.hid (SP.kept (SP.set (SP.set (SP.set (SP.set (SP.set (SP.set (H.out) 3 0 (.int .i64 nw) rfl (by decide)) 3 1 (.slice A5 L5.length c5) rfl (by decide)) 4 0 (.bool on5) rfl (by decide)) 4 1 (.bool bad5) rfl (by decide)) 4 2 (.int .i64 t5) rfl (by decide)) 4 3 (.slice A6 W6.length c6) rfl (by decide)) (kD _)); refine bodyPost_ret (v := .tuple #[.agg #[.int .i64 nw, .slice A5 L5.length c5], .agg #[.bool on5, .bool bad5, .int .i64 t5, .slice A6 W6.length c6], .slice (some ⟨w.heap.size + 1 + 1 + 1 + 1 + 1, 0, none⟩) 0 0, .int .i64 d5]) ?_ rfl (⟨nw, A5, L5, c5, on5, bad5, t5, A6, W6, c6, _, [], 0, d5, rfl, HZ.out.get 2 rfl, HZ.out.get 3 rfl, RK.nil _ _, by simp, rowsT_nil, HD.out.1, HD.out.2, HZ.out.below⟩); (simp [results, Try.results183, go_sem, x3_0, x3_1, x4_0, x4_1, x4_2, x4_3]; done))
  have e8 : (ak == 8) = false := beq_eq_false_iff_ne.2 k8
  by_cases k9 : ak = 9
  case pos =>
    subst k9
    obtain ⟨x0_0, x0_1⟩ := Blk.q2 (H.out.blk 0 rfl)
    obtain ⟨x1_0, x1_1, x1_2, x1_3⟩ := Blk.q4 (H.out.blk 1 rfl)
    obtain ⟨x2_0, x2_1, x2_2, x2_3⟩ := Blk.q4 (H.out.blk 2 rfl)
    obtain ⟨x3_0, x3_1⟩ := Blk.q2 (H.out.blk 3 rfl)
    obtain ⟨x4_0, x4_1, x4_2, x4_3⟩ := Blk.q4 (H.out.blk 4 rfl)
    obtain ⟨z3_0, z3_1⟩ := Blk.z2 (H.out.blk 3 rfl)
    obtain ⟨z4_0, z4_1, z4_2, z4_3⟩ := Blk.z4 (H.out.blk 4 rfl)
    go_wp2_with fail
    refine (l4Ends_any A l c now on bad t A2 ws c2 9 _ (H.out.get 0 rfl) (H.out.get 1 rfl)).mono ?_
    rintro e w2 ⟨nw, A5, L5, c5, on5, bad5, t5, A6, W6, c6, d5, rfl, hV5, hW5, hd0, hd1, hb2⟩
    replace H : Hid (SP w [(w.heap.size, 32, #[.int .i64 now, .slice A l.length c]), (w.heap.size + 1, 78, #[.bool on, .bool bad, .int .i64 t, .slice A2 ws.length c2]), (w.heap.size + 1 + 1, 128, #[.int .i64 9, .string aa, .string ab, .int .i64 an]), (w.heap.size + 1 + 1 + 1, 32, #[.int .i64 0, .slice none 0 0]), (w.heap.size + 1 + 1 + 1 + 1, 78, #[.bool false, .bool false, .int .i64 0, .slice none 0 0]), (w.heap.size + 1 + 1 + 1 + 1 + 1, 111, #[])] [fun W => VK W now A l, fun W => WK W A2 ws, fun W => VK W nw A5 L5, fun W => WK W A6 W6] w2) := Lib.hid (SP.add (SP.add (H.out.kept hb2) _ VK.c (hV5)) _ WK.c (hW5))
    clear x0_0 x0_1 x1_0 x1_1 x1_2 x1_3 x2_0 x2_1 x2_2 x2_3 x3_0 x3_1 x4_0 x4_1 x4_2 x4_3 z3_0 z3_1 z4_0 z4_1 z4_2 z4_3 hb2 hV5 hW5
    have hlt4 := (H.out.blk 4 rfl).lt
    have np3 : w2.heap.size ≠ w.heap.size + 1 + 1 + 1 := by omega
    have mp3 : w.heap.size + 1 + 1 + 1 ≠ w2.heap.size := by omega
    have np4 : w2.heap.size ≠ w.heap.size + 1 + 1 + 1 + 1 := by omega
    have mp4 : w.heap.size + 1 + 1 + 1 + 1 ≠ w2.heap.size := by omega
    have nq3 : w2.heap.size + 1 ≠ w.heap.size + 1 + 1 + 1 := by omega
    have mq3 : w.heap.size + 1 + 1 + 1 ≠ w2.heap.size + 1 := by omega
    have nq4 : w2.heap.size + 1 ≠ w.heap.size + 1 + 1 + 1 + 1 := by omega
    have mq4 : w.heap.size + 1 + 1 + 1 + 1 ≠ w2.heap.size + 1 := by omega
    clear hlt4
    replace H : Hid (SP w [(w.heap.size, 32, #[.int .i64 now, .slice A l.length c]), (w.heap.size + 1, 78, #[.bool on, .bool bad, .int .i64 t, .slice A2 ws.length c2]), (w.heap.size + 1 + 1, 128, #[.int .i64 9, .string aa, .string ab, .int .i64 an]), (w.heap.size + 1 + 1 + 1, 32, #[.int .i64 0, .slice none 0 0]), (w.heap.size + 1 + 1 + 1 + 1, 78, #[.bool false, .bool false, .int .i64 0, .slice none 0 0]), (w.heap.size + 1 + 1 + 1 + 1 + 1, 111, #[]), (w2.heap.size, 32, #[.int .i64 nw, .slice A5 L5.length c5]), (w2.heap.size + 1, 78, #[.bool on5, .bool bad5, .int .i64 t5, .slice A6 W6.length c6])] [fun W => VK W now A l, fun W => WK W A2 ws, fun W => VK W nw A5 L5, fun W => WK W A6 W6] (((w2.alloc (.cells #[.int .i64 nw, .slice A5 L5.length c5] 32)).alloc (.cells #[.bool on5, .bool bad5, .int .i64 t5, .slice A6 W6.length c6] 78)))) := Lib.hid (H.out.boxes [(32, #[.int .i64 nw, .slice A5 L5.length c5]), (78, #[.bool on5, .bool bad5, .int .i64 t5, .slice A6 W6.length c6])])
    obtain ⟨x3_0, x3_1⟩ := Blk.q2 (H.out.blk 3 rfl)
    obtain ⟨x4_0, x4_1, x4_2, x4_3⟩ := Blk.q4 (H.out.blk 4 rfl)
    obtain ⟨z3_0, z3_1⟩ := Blk.z2 (H.out.blk 3 rfl)
    obtain ⟨z4_0, z4_1, z4_2, z4_3⟩ := Blk.z4 (H.out.blk 4 rfl)
    have HD := Lib.hid (⟨hd0, hd1⟩ : _ ∧ _)
    clear hd0 hd1
    go_wp2_with fail
    go_region
    all_goals
      go_wp2
      first
      | (have HZ := Lib.hid (SP.kept (SP.set (SP.set (SP.set (SP.set (SP.set (SP.set (H.out) 3 0 (.int .i64 nw) rfl (by decide)) 3 1 (.slice A5 L5.length c5) rfl (by decide)) 4 0 (.bool on5) rfl (by decide)) 4 1 (.bool bad5) rfl (by decide)) 4 2 (.int .i64 t5) rfl (by decide)) 4 3 (.slice A6 W6.length c6) rfl (by decide)) (kD _)); refine bodyPost_ret (v := .tuple #[.agg #[.int .i64 nw, .slice A5 L5.length c5], .agg #[.bool on5, .bool bad5, .int .i64 t5, .slice A6 W6.length c6], .slice (some ⟨w.heap.size + 1 + 1 + 1 + 1 + 1, 0, none⟩) 0 0, .int .i64 d5]) ?_ rfl (⟨nw, A5, L5, c5, on5, bad5, t5, A6, W6, c6, _, [], 0, d5, rfl, HZ.out.get 2 rfl, HZ.out.get 3 rfl, RK.nil _ _, by simp, rowsT_nil, HD.out.1, HD.out.2, HZ.out.below⟩); (simp [results, Try.results183, go_sem, x3_0, x3_1, x4_0, x4_1, x4_2, x4_3]; done))
  have e9 : (ak == 9) = false := beq_eq_false_iff_ne.2 k9
  cases bad
  case true =>
    obtain ⟨x0_0, x0_1⟩ := Blk.q2 (H.out.blk 0 rfl)
    obtain ⟨x1_0, x1_1, x1_2, x1_3⟩ := Blk.q4 (H.out.blk 1 rfl)
    obtain ⟨x2_0, x2_1, x2_2, x2_3⟩ := Blk.q4 (H.out.blk 2 rfl)
    obtain ⟨x3_0, x3_1⟩ := Blk.q2 (H.out.blk 3 rfl)
    obtain ⟨x4_0, x4_1, x4_2, x4_3⟩ := Blk.q4 (H.out.blk 4 rfl)
    obtain ⟨z3_0, z3_1⟩ := Blk.z2 (H.out.blk 3 rfl)
    obtain ⟨z4_0, z4_1, z4_2, z4_3⟩ := Blk.z4 (H.out.blk 4 rfl)
    go_wp2_with fail
    go_region
    all_goals
      go_wp2
      first
      | (have HZ := Lib.hid (SP.kept (SP.set (SP.set (SP.set (SP.set (SP.set (SP.set (H.out) 3 0 (.int .i64 now) rfl (by decide)) 3 1 (.slice A l.length c) rfl (by decide)) 4 0 (.bool on) rfl (by decide)) 4 1 (.bool true) rfl (by decide)) 4 2 (.int .i64 t) rfl (by decide)) 4 3 (.slice A2 ws.length c2) rfl (by decide)) (kD _)); refine bodyPost_ret (v := .tuple #[.agg #[.int .i64 now, .slice A l.length c], .agg #[.bool on, .bool true, .int .i64 t, .slice A2 ws.length c2], .slice (some ⟨w.heap.size + 1 + 1 + 1 + 1 + 1, 0, none⟩) 0 0, .int .i64 5]) ?_ rfl (⟨now, A, l, c, on, true, t, A2, ws, c2, _, [], 0, 5, rfl, HZ.out.get 0 rfl, HZ.out.get 1 rfl, RK.nil _ _, by simp, rowsT_nil, by decide, by decide, HZ.out.below⟩); (simp [results, Try.results183, go_sem, x3_0, x3_1, x4_0, x4_1, x4_2, x4_3]; done))
  by_cases k7 : ak = 7
  case pos =>
    subst k7
    cases on
    case true =>
      obtain ⟨x2_0, x2_1, x2_2, x2_3⟩ := Blk.q4 (H.out.blk 2 rfl)
      obtain ⟨x0_0, x0_1⟩ := Blk.q2 (H.out.blk 0 rfl)
      obtain ⟨x1_0, x1_1, x1_2, x1_3⟩ := Blk.q4 (H.out.blk 1 rfl)
      obtain ⟨x3_0, x3_1⟩ := Blk.q2 (H.out.blk 3 rfl)
      obtain ⟨x4_0, x4_1, x4_2, x4_3⟩ := Blk.q4 (H.out.blk 4 rfl)
      obtain ⟨z3_0, z3_1⟩ := Blk.z2 (H.out.blk 3 rfl)
      obtain ⟨z4_0, z4_1, z4_2, z4_3⟩ := Blk.z4 (H.out.blk 4 rfl)
      go_wp2_with fail
      replace H := Lib.hid (H.out.kept (kD w1))
      go_region_with (go_at_call 186; refine (l4Wrong_any true false t A2 ws.length c2 _).mono ?_; rintro e wz ⟨rfl, hbz⟩; replace H := Lib.hid (H.out.kept hbz); have hkk : wz.cell? ⟨w.heap.size, 0, none⟩ = some (.int .i64 now) ∧ wz.cell? ⟨w.heap.size, 1, none⟩ = some (.slice A l.length c) ∧ wz.cell? ⟨w.heap.size + 1, 0, none⟩ = some (.bool true) ∧ wz.cell? ⟨w.heap.size + 1, 1, none⟩ = some (.bool false) ∧ wz.cell? ⟨w.heap.size + 1, 2, none⟩ = some (.int .i64 t) ∧ wz.cell? ⟨w.heap.size + 1, 3, none⟩ = some (.slice A2 ws.length c2) ∧ wz.cell? ⟨w.heap.size + 1 + 1 + 1, 0, none⟩ = some (.int .i64 0) ∧ wz.cell? ⟨w.heap.size + 1 + 1 + 1, 1, none⟩ = some (.slice none 0 0) ∧ wz.cell? ⟨w.heap.size + 1 + 1 + 1 + 1, 0, none⟩ = some (.bool false) ∧ wz.cell? ⟨w.heap.size + 1 + 1 + 1 + 1, 1, none⟩ = some (.bool false) ∧ wz.cell? ⟨w.heap.size + 1 + 1 + 1 + 1, 2, none⟩ = some (.int .i64 0) ∧ wz.cell? ⟨w.heap.size + 1 + 1 + 1 + 1, 3, none⟩ = some (.slice none 0 0) := ⟨(H.out.blk 0 rfl).cell 0, (H.out.blk 0 rfl).cell 1, (H.out.blk 1 rfl).cell 0, (H.out.blk 1 rfl).cell 1, (H.out.blk 1 rfl).cell 2, (H.out.blk 1 rfl).cell 3, (H.out.blk 3 rfl).cell 0, (H.out.blk 3 rfl).cell 1, (H.out.blk 4 rfl).cell 0, (H.out.blk 4 rfl).cell 1, (H.out.blk 4 rfl).cell 2, (H.out.blk 4 rfl).cell 3⟩; have hfz := fun j => (H.out.blk 3 rfl).frozen j; have hfz2 := fun j => (H.out.blk 4 rfl).frozen j; clear hbz)
      all_goals
        obtain ⟨x0_0, x0_1, x1_0, x1_1, x1_2, x1_3, x3_0, x3_1, x4_0, x4_1, x4_2, x4_3⟩ := hkk
        go_wp2
        first
        | (have HZ := Lib.hid (SP.set (SP.set (SP.set (SP.set (SP.set (SP.set (H.out) 3 0 (.int .i64 now) rfl (by decide)) 3 1 (.slice A l.length c) rfl (by decide)) 4 0 (.bool true) rfl (by decide)) 4 1 (.bool true) rfl (by decide)) 4 2 (.int .i64 t) rfl (by decide)) 4 3 (.slice A2 ws.length c2) rfl (by decide)); refine bodyPost_ret (v := .tuple #[.agg #[.int .i64 now, .slice A l.length c], .agg #[.bool true, .bool true, .int .i64 t, .slice A2 ws.length c2], .slice (some ⟨w.heap.size + 1 + 1 + 1 + 1 + 1, 0, none⟩) 0 0, .int .i64 4]) ?_ rfl (⟨now, A, l, c, true, true, t, A2, ws, c2, _, [], 0, 4, rfl, HZ.out.get 0 rfl, HZ.out.get 1 rfl, RK.nil _ _, by simp, rowsT_nil, by decide, by decide, HZ.out.below⟩); (simp [results, Try.results183, go_sem, x3_0, x3_1, x4_0, x4_1, x4_2, x4_3]; done))
    obtain ⟨x0_0, x0_1⟩ := Blk.q2 (H.out.blk 0 rfl)
    obtain ⟨x1_0, x1_1, x1_2, x1_3⟩ := Blk.q4 (H.out.blk 1 rfl)
    obtain ⟨x2_0, x2_1, x2_2, x2_3⟩ := Blk.q4 (H.out.blk 2 rfl)
    obtain ⟨x3_0, x3_1⟩ := Blk.q2 (H.out.blk 3 rfl)
    obtain ⟨x4_0, x4_1, x4_2, x4_3⟩ := Blk.q4 (H.out.blk 4 rfl)
    obtain ⟨z3_0, z3_1⟩ := Blk.z2 (H.out.blk 3 rfl)
    obtain ⟨z4_0, z4_1, z4_2, z4_3⟩ := Blk.z4 (H.out.blk 4 rfl)
    go_wp2_with fail
    replace H := Lib.hid (H.out.kept (kD w1))
    go_region_with (go_at_call 215; refine (workNew_any A l c now _ (H.out.get 0 rfl)).mono ?_; rintro e wz ⟨t1, A1n, rfl, hbz⟩; replace H := Lib.hid (H.out.kept hbz); have hkk : wz.cell? ⟨w.heap.size, 0, none⟩ = some (.int .i64 now) ∧ wz.cell? ⟨w.heap.size, 1, none⟩ = some (.slice A l.length c) ∧ wz.cell? ⟨w.heap.size + 1 + 1 + 1, 0, none⟩ = some (.int .i64 0) ∧ wz.cell? ⟨w.heap.size + 1 + 1 + 1, 1, none⟩ = some (.slice none 0 0) ∧ wz.cell? ⟨w.heap.size + 1 + 1 + 1 + 1, 0, none⟩ = some (.bool false) ∧ wz.cell? ⟨w.heap.size + 1 + 1 + 1 + 1, 1, none⟩ = some (.bool false) ∧ wz.cell? ⟨w.heap.size + 1 + 1 + 1 + 1, 2, none⟩ = some (.int .i64 0) ∧ wz.cell? ⟨w.heap.size + 1 + 1 + 1 + 1, 3, none⟩ = some (.slice none 0 0) := ⟨(H.out.blk 0 rfl).cell 0, (H.out.blk 0 rfl).cell 1, (H.out.blk 3 rfl).cell 0, (H.out.blk 3 rfl).cell 1, (H.out.blk 4 rfl).cell 0, (H.out.blk 4 rfl).cell 1, (H.out.blk 4 rfl).cell 2, (H.out.blk 4 rfl).cell 3⟩; have hfz := fun j => (H.out.blk 3 rfl).frozen j; have hfz2 := fun j => (H.out.blk 4 rfl).frozen j; clear hbz)
    all_goals
      obtain ⟨x0_0, x0_1, x3_0, x3_1, x4_0, x4_1, x4_2, x4_3⟩ := hkk
      go_wp2
      first
      | (have HZ := Lib.hid (SP.set (SP.set (SP.set (SP.set (SP.set (SP.set (H.out) 3 0 (.int .i64 now) rfl (by decide)) 3 1 (.slice A l.length c) rfl (by decide)) 4 0 (.bool true) rfl (by decide)) 4 1 (.bool false) rfl (by decide)) 4 2 (.int .i64 t1) rfl (by decide)) 4 3 (.slice A1n 0 0) rfl (by decide)); refine bodyPost_ret (v := .tuple #[.agg #[.int .i64 now, .slice A l.length c], .agg #[.bool true, .bool false, .int .i64 t1, .slice A1n 0 0], .slice (some ⟨w.heap.size + 1 + 1 + 1 + 1 + 1, 0, none⟩) 0 0, .int .i64 0]) ?_ rfl (⟨now, A, l, c, true, false, t1, A1n, [], 0, _, [], 0, 0, rfl, HZ.out.get 0 rfl, WK.nil _ _, RK.nil _ _, by simp, rowsT_nil, by decide, by decide, HZ.out.below⟩); (simp [results, Try.results183, go_sem, x3_0, x3_1, x4_0, x4_1, x4_2, x4_3]; done))
  have e7 : (ak == 7) = false := beq_eq_false_iff_ne.2 k7
  by_cases k4 : 4 ≤ ak
  case pos =>
    obtain ⟨x0_0, x0_1⟩ := Blk.q2 (H.out.blk 0 rfl)
    obtain ⟨x1_0, x1_1, x1_2, x1_3⟩ := Blk.q4 (H.out.blk 1 rfl)
    obtain ⟨x2_0, x2_1, x2_2, x2_3⟩ := Blk.q4 (H.out.blk 2 rfl)
    go_wp2_with fail
    refine (l4Turn_any A l c now on false t A2 ws c2 (ak, aa, ab, an) _ (H.out.get 0 rfl) (H.out.get 1 rfl) HXS.out.1).mono ?_
    rintro e w2 ⟨nw, A5, L5, c5, on5, bad5, t5, A6, W6, c6, d5, rfl, hV5, hW5, hd0, hd1, hb2⟩
    replace H : Hid (SP w [(w.heap.size, 32, #[.int .i64 now, .slice A l.length c]), (w.heap.size + 1, 78, #[.bool on, .bool false, .int .i64 t, .slice A2 ws.length c2]), (w.heap.size + 1 + 1, 128, #[.int .i64 ak, .string aa, .string ab, .int .i64 an]), (w.heap.size + 1 + 1 + 1, 32, #[.int .i64 0, .slice none 0 0]), (w.heap.size + 1 + 1 + 1 + 1, 78, #[.bool false, .bool false, .int .i64 0, .slice none 0 0]), (w.heap.size + 1 + 1 + 1 + 1 + 1, 111, #[])] [fun W => VK W now A l, fun W => WK W A2 ws, fun W => VK W nw A5 L5, fun W => WK W A6 W6] w2) := Lib.hid (SP.add (SP.add (H.out.kept hb2) _ VK.c (hV5)) _ WK.c (hW5))
    clear x0_0 x0_1 x1_0 x1_1 x1_2 x1_3 x2_0 x2_1 x2_2 x2_3 hb2 hV5 hW5
    have hlt4 := (H.out.blk 4 rfl).lt
    have np3 : w2.heap.size ≠ w.heap.size + 1 + 1 + 1 := by omega
    have mp3 : w.heap.size + 1 + 1 + 1 ≠ w2.heap.size := by omega
    have np4 : w2.heap.size ≠ w.heap.size + 1 + 1 + 1 + 1 := by omega
    have mp4 : w.heap.size + 1 + 1 + 1 + 1 ≠ w2.heap.size := by omega
    have nq3 : w2.heap.size + 1 ≠ w.heap.size + 1 + 1 + 1 := by omega
    have mq3 : w.heap.size + 1 + 1 + 1 ≠ w2.heap.size + 1 := by omega
    have nq4 : w2.heap.size + 1 ≠ w.heap.size + 1 + 1 + 1 + 1 := by omega
    have mq4 : w.heap.size + 1 + 1 + 1 + 1 ≠ w2.heap.size + 1 := by omega
    clear hlt4
    replace H : Hid (SP w [(w.heap.size, 32, #[.int .i64 now, .slice A l.length c]), (w.heap.size + 1, 78, #[.bool on, .bool false, .int .i64 t, .slice A2 ws.length c2]), (w.heap.size + 1 + 1, 128, #[.int .i64 ak, .string aa, .string ab, .int .i64 an]), (w.heap.size + 1 + 1 + 1, 32, #[.int .i64 0, .slice none 0 0]), (w.heap.size + 1 + 1 + 1 + 1, 78, #[.bool false, .bool false, .int .i64 0, .slice none 0 0]), (w.heap.size + 1 + 1 + 1 + 1 + 1, 111, #[]), (w2.heap.size, 32, #[.int .i64 nw, .slice A5 L5.length c5]), (w2.heap.size + 1, 78, #[.bool on5, .bool bad5, .int .i64 t5, .slice A6 W6.length c6])] [fun W => VK W now A l, fun W => WK W A2 ws, fun W => VK W nw A5 L5, fun W => WK W A6 W6] (((w2.alloc (.cells #[.int .i64 nw, .slice A5 L5.length c5] 32)).alloc (.cells #[.bool on5, .bool bad5, .int .i64 t5, .slice A6 W6.length c6] 78)))) := Lib.hid (H.out.boxes [(32, #[.int .i64 nw, .slice A5 L5.length c5]), (78, #[.bool on5, .bool bad5, .int .i64 t5, .slice A6 W6.length c6])])
    obtain ⟨x3_0, x3_1⟩ := Blk.q2 (H.out.blk 3 rfl)
    obtain ⟨x4_0, x4_1, x4_2, x4_3⟩ := Blk.q4 (H.out.blk 4 rfl)
    obtain ⟨z3_0, z3_1⟩ := Blk.z2 (H.out.blk 3 rfl)
    obtain ⟨z4_0, z4_1, z4_2, z4_3⟩ := Blk.z4 (H.out.blk 4 rfl)
    have HD := Lib.hid (⟨hd0, hd1⟩ : _ ∧ _)
    clear hd0 hd1
    go_wp2_with fail
    go_region
    all_goals
      go_wp2
      first
      | (have HZ := Lib.hid (SP.kept (SP.set (SP.set (SP.set (SP.set (SP.set (SP.set (H.out) 3 0 (.int .i64 nw) rfl (by decide)) 3 1 (.slice A5 L5.length c5) rfl (by decide)) 4 0 (.bool on5) rfl (by decide)) 4 1 (.bool bad5) rfl (by decide)) 4 2 (.int .i64 t5) rfl (by decide)) 4 3 (.slice A6 W6.length c6) rfl (by decide)) (kD _)); refine bodyPost_ret (v := .tuple #[.agg #[.int .i64 nw, .slice A5 L5.length c5], .agg #[.bool on5, .bool bad5, .int .i64 t5, .slice A6 W6.length c6], .slice (some ⟨w.heap.size + 1 + 1 + 1 + 1 + 1, 0, none⟩) 0 0, .int .i64 d5]) ?_ rfl (⟨nw, A5, L5, c5, on5, bad5, t5, A6, W6, c6, _, [], 0, d5, rfl, HZ.out.get 2 rfl, HZ.out.get 3 rfl, RK.nil _ _, by simp, rowsT_nil, HD.out.1, HD.out.2, HZ.out.below⟩); (simp [results, Try.results183, go_sem, x3_0, x3_1, x4_0, x4_1, x4_2, x4_3]; done))
  obtain ⟨x0_0, x0_1⟩ := Blk.q2 (H.out.blk 0 rfl)
  obtain ⟨x1_0, x1_1, x1_2, x1_3⟩ := Blk.q4 (H.out.blk 1 rfl)
  obtain ⟨x2_0, x2_1, x2_2, x2_3⟩ := Blk.q4 (H.out.blk 2 rfl)
  go_wp2_with fail
  refine (l2At_any A l c now now _ (by omega) (VK.sl (H.out.get 0 rfl))).mono ?_
  rintro e w2 ⟨vr, rfl, hor, hb2⟩
  have hal : (atL l now).length ≤ 70 := by have := atL_le l now; omega
  obtain ⟨Ar, cr, rfl, _, _, _⟩ := OwnR.sl (l := atL l now) hor
  have hrk := RK.of (l := atL l now) hor (atL_size HNN.out.1.1)
  generalize atL l now = rr at *
  replace H : Hid (SP w [(w.heap.size, 32, #[.int .i64 now, .slice A l.length c]), (w.heap.size + 1, 78, #[.bool on, .bool false, .int .i64 t, .slice A2 ws.length c2]), (w.heap.size + 1 + 1, 128, #[.int .i64 ak, .string aa, .string ab, .int .i64 an]), (w.heap.size + 1 + 1 + 1, 32, #[.int .i64 0, .slice none 0 0]), (w.heap.size + 1 + 1 + 1 + 1, 78, #[.bool false, .bool false, .int .i64 0, .slice none 0 0]), (w.heap.size + 1 + 1 + 1 + 1 + 1, 111, #[])] [fun W => VK W now A l, fun W => WK W A2 ws, fun W => RK W Ar rr cr] w2) := Lib.hid (SP.add (H.out.kept hb2) _ RK.c (hrk))
  clear x0_0 x0_1 x1_0 x1_1 x1_2 x1_3 x2_0 x2_1 x2_2 x2_3 hb2 hor hrk
  cases on
  case false =>
    obtain ⟨x1_0, x1_1, x1_2, x1_3⟩ := Blk.q4 (H.out.blk 1 rfl)
    obtain ⟨x2_0, x2_1, x2_2, x2_3⟩ := Blk.q4 (H.out.blk 2 rfl)
    go_wp2_with fail
    refine (l4Told_any Ar rr cr (ak, aa, ab, an) _ hal (H.out.get 2 rfl) HAP.out.2.2.1).mono ?_
    rintro e w4 ⟨A9, r9, c9, d9, rfl, hr9, hr70, hrt, hd0, hd1, hb4⟩
    replace H : Hid (SP w [(w.heap.size, 32, #[.int .i64 now, .slice A l.length c]), (w.heap.size + 1, 78, #[.bool false, .bool false, .int .i64 t, .slice A2 ws.length c2]), (w.heap.size + 1 + 1, 128, #[.int .i64 ak, .string aa, .string ab, .int .i64 an]), (w.heap.size + 1 + 1 + 1, 32, #[.int .i64 0, .slice none 0 0]), (w.heap.size + 1 + 1 + 1 + 1, 78, #[.bool false, .bool false, .int .i64 0, .slice none 0 0]), (w.heap.size + 1 + 1 + 1 + 1 + 1, 111, #[])] [fun W => VK W now A l, fun W => WK W A2 ws, fun W => RK W Ar rr cr, fun W => RK W A9 r9 c9] w4) := Lib.hid (SP.add (H.out.kept hb4) _ RK.c (hr9))
    clear x1_0 x1_1 x1_2 x1_3 x2_0 x2_1 x2_2 x2_3 hb4 hr9
    have HD := Lib.hid (⟨⟨hr70, hrt⟩, hd0, hd1⟩ : (_ ∧ _) ∧ _ ∧ _)
    clear hr70 hrt hd0 hd1
    by_cases hd : d9 = 0
    case neg =>
      have hdi : (d9 == 0) = false := beq_eq_false_iff_ne.2 hd
      obtain ⟨x0_0, x0_1⟩ := Blk.q2 (H.out.blk 0 rfl)
      obtain ⟨x1_0, x1_1, x1_2, x1_3⟩ := Blk.q4 (H.out.blk 1 rfl)
      obtain ⟨x3_0, x3_1⟩ := Blk.q2 (H.out.blk 3 rfl)
      obtain ⟨x4_0, x4_1, x4_2, x4_3⟩ := Blk.q4 (H.out.blk 4 rfl)
      obtain ⟨z3_0, z3_1⟩ := Blk.z2 (H.out.blk 3 rfl)
      obtain ⟨z4_0, z4_1, z4_2, z4_3⟩ := Blk.z4 (H.out.blk 4 rfl)
      go_wp2_with fail
      replace H := Lib.hid (H.out.kept (kD w4))
      go_region_with (go_at_call 186; refine (l4Wrong_any false false t A2 ws.length c2 _).mono ?_; rintro e wz ⟨rfl, hbz⟩; replace H := Lib.hid (H.out.kept hbz); have hkk : wz.cell? ⟨w.heap.size, 0, none⟩ = some (.int .i64 now) ∧ wz.cell? ⟨w.heap.size, 1, none⟩ = some (.slice A l.length c) ∧ wz.cell? ⟨w.heap.size + 1, 0, none⟩ = some (.bool false) ∧ wz.cell? ⟨w.heap.size + 1, 1, none⟩ = some (.bool false) ∧ wz.cell? ⟨w.heap.size + 1, 2, none⟩ = some (.int .i64 t) ∧ wz.cell? ⟨w.heap.size + 1, 3, none⟩ = some (.slice A2 ws.length c2) ∧ wz.cell? ⟨w.heap.size + 1 + 1 + 1, 0, none⟩ = some (.int .i64 0) ∧ wz.cell? ⟨w.heap.size + 1 + 1 + 1, 1, none⟩ = some (.slice none 0 0) ∧ wz.cell? ⟨w.heap.size + 1 + 1 + 1 + 1, 0, none⟩ = some (.bool false) ∧ wz.cell? ⟨w.heap.size + 1 + 1 + 1 + 1, 1, none⟩ = some (.bool false) ∧ wz.cell? ⟨w.heap.size + 1 + 1 + 1 + 1, 2, none⟩ = some (.int .i64 0) ∧ wz.cell? ⟨w.heap.size + 1 + 1 + 1 + 1, 3, none⟩ = some (.slice none 0 0) := ⟨(H.out.blk 0 rfl).cell 0, (H.out.blk 0 rfl).cell 1, (H.out.blk 1 rfl).cell 0, (H.out.blk 1 rfl).cell 1, (H.out.blk 1 rfl).cell 2, (H.out.blk 1 rfl).cell 3, (H.out.blk 3 rfl).cell 0, (H.out.blk 3 rfl).cell 1, (H.out.blk 4 rfl).cell 0, (H.out.blk 4 rfl).cell 1, (H.out.blk 4 rfl).cell 2, (H.out.blk 4 rfl).cell 3⟩; have hfz := fun j => (H.out.blk 3 rfl).frozen j; have hfz2 := fun j => (H.out.blk 4 rfl).frozen j; clear hbz)
      all_goals
        obtain ⟨x0_0, x0_1, x1_0, x1_1, x1_2, x1_3, x3_0, x3_1, x4_0, x4_1, x4_2, x4_3⟩ := hkk
        go_wp2
        first
        | (have HZ := Lib.hid (SP.set (SP.set (SP.set (SP.set (SP.set (SP.set (H.out) 3 0 (.int .i64 now) rfl (by decide)) 3 1 (.slice A l.length c) rfl (by decide)) 4 0 (.bool false) rfl (by decide)) 4 1 (.bool false) rfl (by decide)) 4 2 (.int .i64 t) rfl (by decide)) 4 3 (.slice A2 ws.length c2) rfl (by decide)); refine bodyPost_ret (v := .tuple #[.agg #[.int .i64 now, .slice A l.length c], .agg #[.bool false, .bool false, .int .i64 t, .slice A2 ws.length c2], .slice A9 r9.length c9, .int .i64 d9]) ?_ rfl (⟨now, A, l, c, false, false, t, A2, ws, c2, A9, r9, c9, d9, rfl, HZ.out.get 0 rfl, HZ.out.get 1 rfl, HZ.out.get 3 rfl, HD.out.1.1, HD.out.1.2, HD.out.2.1, HD.out.2.2, HZ.out.below⟩); (simp [results, Try.results183, go_sem, x3_0, x3_1, x4_0, x4_1, x4_2, x4_3]; done))
    subst hd
    obtain ⟨x0_0, x0_1⟩ := Blk.q2 (H.out.blk 0 rfl)
    obtain ⟨x1_0, x1_1, x1_2, x1_3⟩ := Blk.q4 (H.out.blk 1 rfl)
    obtain ⟨x3_0, x3_1⟩ := Blk.q2 (H.out.blk 3 rfl)
    obtain ⟨x4_0, x4_1, x4_2, x4_3⟩ := Blk.q4 (H.out.blk 4 rfl)
    obtain ⟨z3_0, z3_1⟩ := Blk.z2 (H.out.blk 3 rfl)
    obtain ⟨z4_0, z4_1, z4_2, z4_3⟩ := Blk.z4 (H.out.blk 4 rfl)
    go_wp2_with fail
    go_region
    all_goals
      go_wp2
      first
      | (have HZ := Lib.hid (SP.kept (SP.set (SP.set (SP.set (SP.set (SP.set (SP.set (H.out) 3 0 (.int .i64 now) rfl (by decide)) 3 1 (.slice A l.length c) rfl (by decide)) 4 0 (.bool false) rfl (by decide)) 4 1 (.bool false) rfl (by decide)) 4 2 (.int .i64 t) rfl (by decide)) 4 3 (.slice A2 ws.length c2) rfl (by decide)) (kD _)); refine bodyPost_ret (v := .tuple #[.agg #[.int .i64 now, .slice A l.length c], .agg #[.bool false, .bool false, .int .i64 t, .slice A2 ws.length c2], .slice A9 r9.length c9, .int .i64 0]) ?_ rfl (⟨now, A, l, c, false, false, t, A2, ws, c2, A9, r9, c9, 0, rfl, HZ.out.get 0 rfl, HZ.out.get 1 rfl, HZ.out.get 3 rfl, HD.out.1.1, HD.out.1.2, by decide, by decide, HZ.out.below⟩); (simp [results, Try.results183, go_sem, x3_0, x3_1, x4_0, x4_1, x4_2, x4_3]; done))
  obtain ⟨x0_0, x0_1⟩ := Blk.q2 (H.out.blk 0 rfl)
  obtain ⟨x1_0, x1_1, x1_2, x1_3⟩ := Blk.q4 (H.out.blk 1 rfl)
  go_wp2_with fail
  refine (workRows_any A l c now t A2 ws c2 _ (H.out.get 0 rfl) (H.out.get 1 rfl)).mono ?_
  rintro e w3 ⟨Aw, cw, Bw, rfl, how, hb3⟩
  have hwl := workR_len (now := now) (l := l) (t := t) (ws := ws) hl hw8
  have hrw := RK.of how (workR_size HNN.out.1.1 HNN.out.2.1)
  generalize workR now l t ws = rw at *
  replace H : Hid (SP w [(w.heap.size, 32, #[.int .i64 now, .slice A l.length c]), (w.heap.size + 1, 78, #[.bool true, .bool false, .int .i64 t, .slice A2 ws.length c2]), (w.heap.size + 1 + 1, 128, #[.int .i64 ak, .string aa, .string ab, .int .i64 an]), (w.heap.size + 1 + 1 + 1, 32, #[.int .i64 0, .slice none 0 0]), (w.heap.size + 1 + 1 + 1 + 1, 78, #[.bool false, .bool false, .int .i64 0, .slice none 0 0]), (w.heap.size + 1 + 1 + 1 + 1 + 1, 111, #[])] [fun W => VK W now A l, fun W => WK W A2 ws, fun W => RK W Ar rr cr, fun W => RK W Aw rw cw] w3) := Lib.hid (SP.add (H.out.kept hb3) _ RK.c (hrw))
  clear x0_0 x0_1 x1_0 x1_1 x1_2 x1_3 hb3 how hrw
  obtain ⟨x2_0, x2_1, x2_2, x2_3⟩ := Blk.q4 (H.out.blk 2 rfl)
  go_wp2_with fail
  refine (l4Told_any Aw rw cw (ak, aa, ab, an) _ hwl (H.out.get 3 rfl) HAP.out.2.2.1).mono ?_
  rintro e w4 ⟨A9, r9, c9, d9, rfl, hr9, hr70, hrt, hd0, hd1, hb4⟩
  replace H : Hid (SP w [(w.heap.size, 32, #[.int .i64 now, .slice A l.length c]), (w.heap.size + 1, 78, #[.bool true, .bool false, .int .i64 t, .slice A2 ws.length c2]), (w.heap.size + 1 + 1, 128, #[.int .i64 ak, .string aa, .string ab, .int .i64 an]), (w.heap.size + 1 + 1 + 1, 32, #[.int .i64 0, .slice none 0 0]), (w.heap.size + 1 + 1 + 1 + 1, 78, #[.bool false, .bool false, .int .i64 0, .slice none 0 0]), (w.heap.size + 1 + 1 + 1 + 1 + 1, 111, #[])] [fun W => VK W now A l, fun W => WK W A2 ws, fun W => RK W Ar rr cr, fun W => RK W Aw rw cw, fun W => RK W A9 r9 c9] w4) := Lib.hid (SP.add (H.out.kept hb4) _ RK.c (hr9))
  clear x2_0 x2_1 x2_2 x2_3 hb4 hr9
  have HD := Lib.hid (⟨⟨hr70, hrt⟩, hd0, hd1⟩ : (_ ∧ _) ∧ _ ∧ _)
  clear hr70 hrt hd0 hd1
  by_cases hd : d9 = 0
  case neg =>
    have hdi : (d9 == 0) = false := beq_eq_false_iff_ne.2 hd
    obtain ⟨x0_0, x0_1⟩ := Blk.q2 (H.out.blk 0 rfl)
    obtain ⟨x1_0, x1_1, x1_2, x1_3⟩ := Blk.q4 (H.out.blk 1 rfl)
    obtain ⟨x3_0, x3_1⟩ := Blk.q2 (H.out.blk 3 rfl)
    obtain ⟨x4_0, x4_1, x4_2, x4_3⟩ := Blk.q4 (H.out.blk 4 rfl)
    obtain ⟨z3_0, z3_1⟩ := Blk.z2 (H.out.blk 3 rfl)
    obtain ⟨z4_0, z4_1, z4_2, z4_3⟩ := Blk.z4 (H.out.blk 4 rfl)
    go_wp2_with fail
    replace H := Lib.hid (H.out.kept (kD w4))
    go_region_with (go_at_call 186; refine (l4Wrong_any true false t A2 ws.length c2 _).mono ?_; rintro e wz ⟨rfl, hbz⟩; replace H := Lib.hid (H.out.kept hbz); have hkk : wz.cell? ⟨w.heap.size, 0, none⟩ = some (.int .i64 now) ∧ wz.cell? ⟨w.heap.size, 1, none⟩ = some (.slice A l.length c) ∧ wz.cell? ⟨w.heap.size + 1, 0, none⟩ = some (.bool true) ∧ wz.cell? ⟨w.heap.size + 1, 1, none⟩ = some (.bool false) ∧ wz.cell? ⟨w.heap.size + 1, 2, none⟩ = some (.int .i64 t) ∧ wz.cell? ⟨w.heap.size + 1, 3, none⟩ = some (.slice A2 ws.length c2) ∧ wz.cell? ⟨w.heap.size + 1 + 1 + 1, 0, none⟩ = some (.int .i64 0) ∧ wz.cell? ⟨w.heap.size + 1 + 1 + 1, 1, none⟩ = some (.slice none 0 0) ∧ wz.cell? ⟨w.heap.size + 1 + 1 + 1 + 1, 0, none⟩ = some (.bool false) ∧ wz.cell? ⟨w.heap.size + 1 + 1 + 1 + 1, 1, none⟩ = some (.bool false) ∧ wz.cell? ⟨w.heap.size + 1 + 1 + 1 + 1, 2, none⟩ = some (.int .i64 0) ∧ wz.cell? ⟨w.heap.size + 1 + 1 + 1 + 1, 3, none⟩ = some (.slice none 0 0) := ⟨(H.out.blk 0 rfl).cell 0, (H.out.blk 0 rfl).cell 1, (H.out.blk 1 rfl).cell 0, (H.out.blk 1 rfl).cell 1, (H.out.blk 1 rfl).cell 2, (H.out.blk 1 rfl).cell 3, (H.out.blk 3 rfl).cell 0, (H.out.blk 3 rfl).cell 1, (H.out.blk 4 rfl).cell 0, (H.out.blk 4 rfl).cell 1, (H.out.blk 4 rfl).cell 2, (H.out.blk 4 rfl).cell 3⟩; have hfz := fun j => (H.out.blk 3 rfl).frozen j; have hfz2 := fun j => (H.out.blk 4 rfl).frozen j; clear hbz)
    all_goals
      obtain ⟨x0_0, x0_1, x1_0, x1_1, x1_2, x1_3, x3_0, x3_1, x4_0, x4_1, x4_2, x4_3⟩ := hkk
      go_wp2
      first
      | (have HZ := Lib.hid (SP.set (SP.set (SP.set (SP.set (SP.set (SP.set (H.out) 3 0 (.int .i64 now) rfl (by decide)) 3 1 (.slice A l.length c) rfl (by decide)) 4 0 (.bool true) rfl (by decide)) 4 1 (.bool true) rfl (by decide)) 4 2 (.int .i64 t) rfl (by decide)) 4 3 (.slice A2 ws.length c2) rfl (by decide)); refine bodyPost_ret (v := .tuple #[.agg #[.int .i64 now, .slice A l.length c], .agg #[.bool true, .bool true, .int .i64 t, .slice A2 ws.length c2], .slice A9 r9.length c9, .int .i64 d9]) ?_ rfl (⟨now, A, l, c, true, true, t, A2, ws, c2, A9, r9, c9, d9, rfl, HZ.out.get 0 rfl, HZ.out.get 1 rfl, HZ.out.get 4 rfl, HD.out.1.1, HD.out.1.2, HD.out.2.1, HD.out.2.2, HZ.out.below⟩); (simp [results, Try.results183, go_sem, x3_0, x3_1, x4_0, x4_1, x4_2, x4_3]; done))
  subst hd
  obtain ⟨x0_0, x0_1⟩ := Blk.q2 (H.out.blk 0 rfl)
  obtain ⟨x1_0, x1_1, x1_2, x1_3⟩ := Blk.q4 (H.out.blk 1 rfl)
  obtain ⟨x3_0, x3_1⟩ := Blk.q2 (H.out.blk 3 rfl)
  obtain ⟨x4_0, x4_1, x4_2, x4_3⟩ := Blk.q4 (H.out.blk 4 rfl)
  obtain ⟨z3_0, z3_1⟩ := Blk.z2 (H.out.blk 3 rfl)
  obtain ⟨z4_0, z4_1, z4_2, z4_3⟩ := Blk.z4 (H.out.blk 4 rfl)
  go_wp2_with fail
  go_region
  all_goals
    go_wp2
    first
    | (have HZ := Lib.hid (SP.kept (SP.set (SP.set (SP.set (SP.set (SP.set (SP.set (H.out) 3 0 (.int .i64 now) rfl (by decide)) 3 1 (.slice A l.length c) rfl (by decide)) 4 0 (.bool true) rfl (by decide)) 4 1 (.bool false) rfl (by decide)) 4 2 (.int .i64 t) rfl (by decide)) 4 3 (.slice A2 ws.length c2) rfl (by decide)) (kD _)); refine bodyPost_ret (v := .tuple #[.agg #[.int .i64 now, .slice A l.length c], .agg #[.bool true, .bool false, .int .i64 t, .slice A2 ws.length c2], .slice A9 r9.length c9, .int .i64 0]) ?_ rfl (⟨now, A, l, c, true, false, t, A2, ws, c2, A9, r9, c9, 0, rfl, HZ.out.get 0 rfl, HZ.out.get 1 rfl, HZ.out.get 4 rfl, HD.out.1.1, HD.out.1.2, by decide, by decide, HZ.out.below⟩); (simp [results, Try.results183, go_sem, x3_0, x3_1, x4_0, x4_1, x4_2, x4_3]; done))
end Go.Proofs.Ytpjkcmmmpgncmaa
