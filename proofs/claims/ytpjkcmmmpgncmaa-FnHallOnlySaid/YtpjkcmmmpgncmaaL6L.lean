import Derived.Test.YtpjkcmmmpgncmaaL6O
/- The reference's l6Letter: a letter is answered, or passed over (bounds). -/
namespace Go.Proofs.Ytpjkcmmmpgncmaa
open Go.RowKit
theorem LK.emp (W : World) (a : Nat) (ha : a = W.heap.size) : LK (W.alloc (.cells #[] 94)) (some ⟨a, 0, none⟩) [] := by
  subst ha
  exact LK.of (B := W.heap.size) (c := 0) (own_of_blk (base := W.heap.size) (n := 0) (k := 2) (xs := []) (Blk.new W _ #[]) (Nat.le_refl _) (Nat.zero_le _) rfl rfl) (fun z hz => absurd hz (by simp)) (by simp)
set_option maxRecDepth 100000 in
set_option maxHeartbeats 16000000 in
theorem l6Letter_any (A : Option Addr) (l : List Ver) (c : Nat) (now : Int) (on bad : Bool) (t : Int) (A2 : Option Addr) (ws : List Wri) (c2 : Nat) (A3 : Option Addr) (ns : List Nm) (c3 : Nat) (skip gone : Bool) (inb : ByteArray) (x : Let) (w : World) (hV : VK w now A l) (hW : WK w A2 ws) (hN : NK w A3 ns) (hx : x.2.size ≤ 1048576) :
    Calls Try.prog 134 #[.agg #[.int .i64 now, .slice A l.length c], .agg #[.bool on, .bool bad, .int .i64 t, .slice A2 ws.length c2, .slice A3 ns.length c3, .bool skip, .bool gone, .string inb], .agg #[.string x.1, .string x.2]] w (DoL inb.size w) := by
  obtain ⟨sg, bd⟩ := x
  simp only at hx ⊢
  have HXB := Lib.hid hx
  have hbE := allocAll_below w [(32, #[.int .i64 now, .slice A l.length c]), (81, #[.bool on, .bool bad, .int .i64 t, .slice A2 ws.length c2, .slice A3 ns.length c3, .bool skip, .bool gone, .string inb]), (94, #[.string sg, .string bd]), (32, #[.int .i64 0, .slice none 0 0]), (81, #[.bool false, .bool false, .int .i64 0, .slice none 0 0, .slice none 0 0, .bool false, .bool false, .string ⟨#[]⟩])]
  have H : Hid (SP w [(w.heap.size, 32, #[.int .i64 now, .slice A l.length c]), (w.heap.size + 1, 81, #[.bool on, .bool bad, .int .i64 t, .slice A2 ws.length c2, .slice A3 ns.length c3, .bool skip, .bool gone, .string inb]), (w.heap.size + 1 + 1, 94, #[.string sg, .string bd]), (w.heap.size + 1 + 1 + 1, 32, #[.int .i64 0, .slice none 0 0]), (w.heap.size + 1 + 1 + 1 + 1, 81, #[.bool false, .bool false, .int .i64 0, .slice none 0 0, .slice none 0 0, .bool false, .bool false, .string ⟨#[]⟩])] [fun W => VK W now A l, fun W => WK W A2 ws, fun W => NK W A3 ns] ((allocAll w [(32, #[.int .i64 now, .slice A l.length c]), (81, #[.bool on, .bool bad, .int .i64 t, .slice A2 ws.length c2, .slice A3 ns.length c3, .bool skip, .bool gone, .string inb]), (94, #[.string sg, .string bd]), (32, #[.int .i64 0, .slice none 0 0]), (81, #[.bool false, .bool false, .int .i64 0, .slice none 0 0, .slice none 0 0, .bool false, .bool false, .string ⟨#[]⟩])]))) := Lib.hid (SP.add (SP.add (SP.add (SP.start w [(32, #[.int .i64 now, .slice A l.length c]), (81, #[.bool on, .bool bad, .int .i64 t, .slice A2 ws.length c2, .slice A3 ns.length c3, .bool skip, .bool gone, .string inb]), (94, #[.string sg, .string bd]), (32, #[.int .i64 0, .slice none 0 0]), (81, #[.bool false, .bool false, .int .i64 0, .slice none 0 0, .slice none 0 0, .bool false, .bool false, .string ⟨#[]⟩])]) _ VK.c (VK.c _ _ (Kp.below hbE) hV)) _ WK.c (WK.c _ _ (Kp.below hbE) hW)) _ NK.c (NK.c _ _ (Kp.below hbE) hN))
  clear hbE
  go_enter Try.func134, Try.ntmps134
  clear hV hW hN hx
  go_upto_region 1 with fail
  change Code.wp _ _ _ _ (allocAll w [(32, #[.int .i64 now, .slice A l.length c]), (81, #[.bool on, .bool bad, .int .i64 t, .slice A2 ws.length c2, .slice A3 ns.length c3, .bool skip, .bool gone, .string inb]), (94, #[.string sg, .string bd]), (32, #[.int .i64 0, .slice none 0 0]), (81, #[.bool false, .bool false, .int .i64 0, .slice none 0 0, .slice none 0 0, .bool false, .bool false, .string ⟨#[]⟩])])
  generalize (allocAll w [(32, #[.int .i64 now, .slice A l.length c]), (81, #[.bool on, .bool bad, .int .i64 t, .slice A2 ws.length c2, .slice A3 ns.length c3, .bool skip, .bool gone, .string inb]), (94, #[.string sg, .string bd]), (32, #[.int .i64 0, .slice none 0 0]), (81, #[.bool false, .bool false, .int .i64 0, .slice none 0 0, .slice none 0 0, .bool false, .bool false, .string ⟨#[]⟩])]) = w0 at *
  cases gone
  case true =>
    obtain ⟨x0_0, x0_1⟩ := Blk.q2 (H.out.blk 0 rfl)
    obtain ⟨x1_0, x1_1, x1_2, x1_3, x1_4, x1_5, x1_6, x1_7⟩ := Blk.q8 (H.out.blk 1 rfl)
    obtain ⟨x2_0, x2_1⟩ := Blk.q2 (H.out.blk 2 rfl)
    obtain ⟨z3_0, z3_1⟩ := Blk.z2 (H.out.blk 3 rfl)
    obtain ⟨z4_0, z4_1, z4_2, z4_3, z4_4, z4_5, z4_6, z4_7⟩ := Blk.z8 (H.out.blk 4 rfl)
    obtain ⟨x3_0, x3_1⟩ := Blk.q2 (H.out.blk 3 rfl)
    obtain ⟨x4_0, x4_1, x4_2, x4_3, x4_4, x4_5, x4_6, x4_7⟩ := Blk.q8 (H.out.blk 4 rfl)
    have l0 := (H.out.blk 0 rfl).lt
    have l1 := (H.out.blk 1 rfl).lt
    have l3 := (H.out.blk 3 rfl).lt
    have l4 := (H.out.blk 4 rfl).lt
    go_wp2_with fail
    go_region
    all_goals
      have hN1 := LK.emp ((((((((((w0.setCell ⟨w.heap.size + 1 + 1 + 1, 0, none⟩ (.int .i64 now)).setCell ⟨w.heap.size + 1 + 1 + 1, 1, none⟩ (.slice A l.length c)).setCell ⟨w.heap.size + 1 + 1 + 1 + 1, 0, none⟩ (.bool on)).setCell ⟨w.heap.size + 1 + 1 + 1 + 1, 1, none⟩ (.bool bad)).setCell ⟨w.heap.size + 1 + 1 + 1 + 1, 2, none⟩ (.int .i64 t)).setCell ⟨w.heap.size + 1 + 1 + 1 + 1, 3, none⟩ (.slice A2 ws.length c2)).setCell ⟨w.heap.size + 1 + 1 + 1 + 1, 4, none⟩ (.slice A3 ns.length c3)).setCell ⟨w.heap.size + 1 + 1 + 1 + 1, 5, none⟩ (.bool skip)).setCell ⟨w.heap.size + 1 + 1 + 1 + 1, 6, none⟩ (.bool true)).setCell ⟨w.heap.size + 1 + 1 + 1 + 1, 7, none⟩ (.string inb)) w0.heap.size (by simp only [World.size_setCell])
      have hlk := kFF ((((((((((w0.setCell ⟨w.heap.size + 1 + 1 + 1, 0, none⟩ (.int .i64 now)).setCell ⟨w.heap.size + 1 + 1 + 1, 1, none⟩ (.slice A l.length c)).setCell ⟨w.heap.size + 1 + 1 + 1 + 1, 0, none⟩ (.bool on)).setCell ⟨w.heap.size + 1 + 1 + 1 + 1, 1, none⟩ (.bool bad)).setCell ⟨w.heap.size + 1 + 1 + 1 + 1, 2, none⟩ (.int .i64 t)).setCell ⟨w.heap.size + 1 + 1 + 1 + 1, 3, none⟩ (.slice A2 ws.length c2)).setCell ⟨w.heap.size + 1 + 1 + 1 + 1, 4, none⟩ (.slice A3 ns.length c3)).setCell ⟨w.heap.size + 1 + 1 + 1 + 1, 5, none⟩ (.bool skip)).setCell ⟨w.heap.size + 1 + 1 + 1 + 1, 6, none⟩ (.bool true)).setCell ⟨w.heap.size + 1 + 1 + 1 + 1, 7, none⟩ (.string inb)) (.cells #[] 94)
      have HZ := Lib.hid (SP.kept (SP.add (SP.kept (SP.set (SP.set (SP.set (SP.set (SP.set (SP.set (SP.set (SP.set (SP.set (SP.set (H.out) 3 0 (.int .i64 now) rfl (by decide)) 3 1 (.slice A l.length c) rfl (by decide)) 4 0 (.bool on) rfl (by decide)) 4 1 (.bool bad) rfl (by decide)) 4 2 (.int .i64 t) rfl (by decide)) 4 3 (.slice A2 ws.length c2) rfl (by decide)) 4 4 (.slice A3 ns.length c3) rfl (by decide)) 4 5 (.bool skip) rfl (by decide)) 4 6 (.bool true) rfl (by decide)) 4 7 (.string inb) rfl (by decide)) hlk) (fun W => LK W (some ⟨w0.heap.size, 0, none⟩) []) LK.c hN1) (kDB _))
      clear hlk hN1
      go_wp2
      refine bodyPost_ret (v := .tuple #[.agg #[.int .i64 now, .slice A l.length c], .agg #[.bool on, .bool bad, .int .i64 t, .slice A2 ws.length c2, .slice A3 ns.length c3, .bool skip, .bool true, .string inb], .slice (some ⟨w0.heap.size, 0, none⟩) 0 0]) ?_ rfl ⟨now, A, l, c, on, bad, t, A2, ws, c2, A3, ns, c3, skip, true, inb, some ⟨w0.heap.size, 0, none⟩, [], 0, rfl, HZ.out.get 0 rfl, HZ.out.get 1 rfl, HZ.out.get 2 rfl, HZ.out.get 3 rfl, HZ.out.below, Nat.le_refl _⟩
      simp [results, Try.results134, go_sem, l3, l4, x3_0, x3_1, x4_0, x4_1, x4_2, x4_3, x4_4, x4_5, x4_6, x4_7]
  cases hS : (sg.toList == [83])
  case true =>
    have hS2 : (sg.toList != [83]) = false := by simp [bne, hS]
    cases skip
    case true =>
      obtain ⟨x0_0, x0_1⟩ := Blk.q2 (H.out.blk 0 rfl)
      obtain ⟨x1_0, x1_1, x1_2, x1_3, x1_4, x1_5, x1_6, x1_7⟩ := Blk.q8 (H.out.blk 1 rfl)
      obtain ⟨x2_0, x2_1⟩ := Blk.q2 (H.out.blk 2 rfl)
      obtain ⟨z1_0, z1_1, z1_2, z1_3, z1_4, z1_5, z1_6, z1_7⟩ := Blk.z8 (H.out.blk 1 rfl)
      have l0 := (H.out.blk 0 rfl).lt
      have l1 := (H.out.blk 1 rfl).lt
      have l2 := (H.out.blk 2 rfl).lt
      go_wp2_with fail
      have H := Lib.hid (SP.set H.out 1 5 (.bool false) rfl (by decide))
      clear x0_0 x0_1 x1_0 x1_1 x1_2 x1_3 x1_4 x1_5 x1_6 x1_7 x2_0 x2_1 z1_0 z1_1 z1_2 z1_3 z1_4 z1_5 z1_6 z1_7 l0 l1 l2
      generalize w0.setCell ⟨w.heap.size + 1, 5, none⟩ (.bool false) = w8 at *
      have H : Hid (SP w [(w.heap.size, 32, #[.int .i64 now, .slice A l.length c]), (w.heap.size + 1, 81, #[.bool on, .bool bad, .int .i64 t, .slice A2 ws.length c2, .slice A3 ns.length c3, .bool false, .bool false, .string inb]), (w.heap.size + 1 + 1, 94, #[.string sg, .string bd]), (w.heap.size + 1 + 1 + 1, 32, #[.int .i64 0, .slice none 0 0]), (w.heap.size + 1 + 1 + 1 + 1, 81, #[.bool false, .bool false, .int .i64 0, .slice none 0 0, .slice none 0 0, .bool false, .bool false, .string ⟨#[]⟩])] [fun W => VK W now A l, fun W => WK W A2 ws, fun W => NK W A3 ns] w8) := Lib.hid H.out
      refine (l6Do_any A l c now on bad t A2 ws c2 A3 ns c3 false false inb (sg, bd) _ (H.out.get 0 rfl) (H.out.get 1 rfl) (H.out.get 2 rfl) HXB.out).mono ?_
      rintro e w1 ⟨nowu, Au, lu, cu, onu, badu, tu, A2u, wsu, c2u, A3u, nsu, c3u, sku, gou, inu, A4, L, c4, rfl, hV2, hW2, hN2, hL2, hb2, hin⟩
      replace H : Hid (SP w [(w.heap.size, 32, #[.int .i64 now, .slice A l.length c]), (w.heap.size + 1, 81, #[.bool on, .bool bad, .int .i64 t, .slice A2 ws.length c2, .slice A3 ns.length c3, .bool false, .bool false, .string inb]), (w.heap.size + 1 + 1, 94, #[.string sg, .string bd]), (w.heap.size + 1 + 1 + 1, 32, #[.int .i64 0, .slice none 0 0]), (w.heap.size + 1 + 1 + 1 + 1, 81, #[.bool false, .bool false, .int .i64 0, .slice none 0 0, .slice none 0 0, .bool false, .bool false, .string ⟨#[]⟩])] [fun W => VK W now A l, fun W => WK W A2 ws, fun W => NK W A3 ns, fun W => VK W nowu Au lu, fun W => WK W A2u wsu, fun W => NK W A3u nsu, fun W => LK W A4 L] w1) := Lib.hid (SP.add (SP.add (SP.add (SP.add (H.out.kept hb2) _ VK.c (hV2)) _ WK.c (hW2)) _ NK.c (hN2)) _ LK.c (hL2))
      clear hb2 hV2 hW2 hN2 hL2
      obtain ⟨x3_0, x3_1⟩ := Blk.q2 (H.out.blk 3 rfl)
      obtain ⟨x4_0, x4_1, x4_2, x4_3, x4_4, x4_5, x4_6, x4_7⟩ := Blk.q8 (H.out.blk 4 rfl)
      obtain ⟨z3_0, z3_1⟩ := Blk.z2 (H.out.blk 3 rfl)
      obtain ⟨z4_0, z4_1, z4_2, z4_3, z4_4, z4_5, z4_6, z4_7⟩ := Blk.z8 (H.out.blk 4 rfl)
      have l3 := (H.out.blk 3 rfl).lt
      have l4 := (H.out.blk 4 rfl).lt
      have HZ := Lib.hid (SP.set (SP.set (SP.set (SP.set (SP.set (SP.set (SP.set (SP.set (SP.set (SP.set (H.out) 3 0 (.int .i64 nowu) rfl (by decide)) 3 1 (.slice Au lu.length cu) rfl (by decide)) 4 0 (.bool onu) rfl (by decide)) 4 1 (.bool badu) rfl (by decide)) 4 2 (.int .i64 tu) rfl (by decide)) 4 3 (.slice A2u wsu.length c2u) rfl (by decide)) 4 4 (.slice A3u nsu.length c3u) rfl (by decide)) 4 5 (.bool sku) rfl (by decide)) 4 6 (.bool gou) rfl (by decide)) 4 7 (.string inu) rfl (by decide))
      clear H
      go_wp2
      refine bodyPost_ret (v := .tuple #[.agg #[.int .i64 nowu, .slice Au lu.length cu], .agg #[.bool onu, .bool badu, .int .i64 tu, .slice A2u wsu.length c2u, .slice A3u nsu.length c3u, .bool sku, .bool gou, .string inu], .slice A4 L.length c4]) ?_ rfl (⟨nowu, Au, lu, cu, onu, badu, tu, A2u, wsu, c2u, A3u, nsu, c3u, sku, gou, inu, A4, L, c4, rfl, HZ.out.get 3 rfl, HZ.out.get 4 rfl, HZ.out.get 5 rfl, HZ.out.get 6 rfl, HZ.out.below, hin⟩)
      simp [results, Try.results134, go_sem, x3_0, x3_1, x4_0, x4_1, x4_2, x4_3, x4_4, x4_5, x4_6, x4_7]
    case false =>
      obtain ⟨x0_0, x0_1⟩ := Blk.q2 (H.out.blk 0 rfl)
      obtain ⟨x1_0, x1_1, x1_2, x1_3, x1_4, x1_5, x1_6, x1_7⟩ := Blk.q8 (H.out.blk 1 rfl)
      obtain ⟨x2_0, x2_1⟩ := Blk.q2 (H.out.blk 2 rfl)
      obtain ⟨z1_0, z1_1, z1_2, z1_3, z1_4, z1_5, z1_6, z1_7⟩ := Blk.z8 (H.out.blk 1 rfl)
      have l0 := (H.out.blk 0 rfl).lt
      have l1 := (H.out.blk 1 rfl).lt
      have l2 := (H.out.blk 2 rfl).lt
      go_wp2_with fail
      have H := Lib.hid (SP.set H.out 1 5 (.bool false) rfl (by decide))
      clear x0_0 x0_1 x1_0 x1_1 x1_2 x1_3 x1_4 x1_5 x1_6 x1_7 x2_0 x2_1 z1_0 z1_1 z1_2 z1_3 z1_4 z1_5 z1_6 z1_7 l0 l1 l2
      generalize w0.setCell ⟨w.heap.size + 1, 5, none⟩ (.bool false) = w8 at *
      have H : Hid (SP w [(w.heap.size, 32, #[.int .i64 now, .slice A l.length c]), (w.heap.size + 1, 81, #[.bool on, .bool bad, .int .i64 t, .slice A2 ws.length c2, .slice A3 ns.length c3, .bool false, .bool false, .string inb]), (w.heap.size + 1 + 1, 94, #[.string sg, .string bd]), (w.heap.size + 1 + 1 + 1, 32, #[.int .i64 0, .slice none 0 0]), (w.heap.size + 1 + 1 + 1 + 1, 81, #[.bool false, .bool false, .int .i64 0, .slice none 0 0, .slice none 0 0, .bool false, .bool false, .string ⟨#[]⟩])] [fun W => VK W now A l, fun W => WK W A2 ws, fun W => NK W A3 ns] w8) := Lib.hid H.out
      refine (l6Do_any A l c now on bad t A2 ws c2 A3 ns c3 false false inb (sg, bd) _ (H.out.get 0 rfl) (H.out.get 1 rfl) (H.out.get 2 rfl) HXB.out).mono ?_
      rintro e w1 ⟨nowu, Au, lu, cu, onu, badu, tu, A2u, wsu, c2u, A3u, nsu, c3u, sku, gou, inu, A4, L, c4, rfl, hV2, hW2, hN2, hL2, hb2, hin⟩
      replace H : Hid (SP w [(w.heap.size, 32, #[.int .i64 now, .slice A l.length c]), (w.heap.size + 1, 81, #[.bool on, .bool bad, .int .i64 t, .slice A2 ws.length c2, .slice A3 ns.length c3, .bool false, .bool false, .string inb]), (w.heap.size + 1 + 1, 94, #[.string sg, .string bd]), (w.heap.size + 1 + 1 + 1, 32, #[.int .i64 0, .slice none 0 0]), (w.heap.size + 1 + 1 + 1 + 1, 81, #[.bool false, .bool false, .int .i64 0, .slice none 0 0, .slice none 0 0, .bool false, .bool false, .string ⟨#[]⟩])] [fun W => VK W now A l, fun W => WK W A2 ws, fun W => NK W A3 ns, fun W => VK W nowu Au lu, fun W => WK W A2u wsu, fun W => NK W A3u nsu, fun W => LK W A4 L] w1) := Lib.hid (SP.add (SP.add (SP.add (SP.add (H.out.kept hb2) _ VK.c (hV2)) _ WK.c (hW2)) _ NK.c (hN2)) _ LK.c (hL2))
      clear hb2 hV2 hW2 hN2 hL2
      obtain ⟨x3_0, x3_1⟩ := Blk.q2 (H.out.blk 3 rfl)
      obtain ⟨x4_0, x4_1, x4_2, x4_3, x4_4, x4_5, x4_6, x4_7⟩ := Blk.q8 (H.out.blk 4 rfl)
      obtain ⟨z3_0, z3_1⟩ := Blk.z2 (H.out.blk 3 rfl)
      obtain ⟨z4_0, z4_1, z4_2, z4_3, z4_4, z4_5, z4_6, z4_7⟩ := Blk.z8 (H.out.blk 4 rfl)
      have l3 := (H.out.blk 3 rfl).lt
      have l4 := (H.out.blk 4 rfl).lt
      have HZ := Lib.hid (SP.set (SP.set (SP.set (SP.set (SP.set (SP.set (SP.set (SP.set (SP.set (SP.set (H.out) 3 0 (.int .i64 nowu) rfl (by decide)) 3 1 (.slice Au lu.length cu) rfl (by decide)) 4 0 (.bool onu) rfl (by decide)) 4 1 (.bool badu) rfl (by decide)) 4 2 (.int .i64 tu) rfl (by decide)) 4 3 (.slice A2u wsu.length c2u) rfl (by decide)) 4 4 (.slice A3u nsu.length c3u) rfl (by decide)) 4 5 (.bool sku) rfl (by decide)) 4 6 (.bool gou) rfl (by decide)) 4 7 (.string inu) rfl (by decide))
      clear H
      go_wp2
      refine bodyPost_ret (v := .tuple #[.agg #[.int .i64 nowu, .slice Au lu.length cu], .agg #[.bool onu, .bool badu, .int .i64 tu, .slice A2u wsu.length c2u, .slice A3u nsu.length c3u, .bool sku, .bool gou, .string inu], .slice A4 L.length c4]) ?_ rfl (⟨nowu, Au, lu, cu, onu, badu, tu, A2u, wsu, c2u, A3u, nsu, c3u, sku, gou, inu, A4, L, c4, rfl, HZ.out.get 3 rfl, HZ.out.get 4 rfl, HZ.out.get 5 rfl, HZ.out.get 6 rfl, HZ.out.below, hin⟩)
      simp [results, Try.results134, go_sem, x3_0, x3_1, x4_0, x4_1, x4_2, x4_3, x4_4, x4_5, x4_6, x4_7]
  have hS2 : (sg.toList != [83]) = true := by simp [bne, hS]
  cases skip
  case false =>
    obtain ⟨x0_0, x0_1⟩ := Blk.q2 (H.out.blk 0 rfl)
    obtain ⟨x1_0, x1_1, x1_2, x1_3, x1_4, x1_5, x1_6, x1_7⟩ := Blk.q8 (H.out.blk 1 rfl)
    obtain ⟨x2_0, x2_1⟩ := Blk.q2 (H.out.blk 2 rfl)
    obtain ⟨z1_0, z1_1, z1_2, z1_3, z1_4, z1_5, z1_6, z1_7⟩ := Blk.z8 (H.out.blk 1 rfl)
    have l0 := (H.out.blk 0 rfl).lt
    have l1 := (H.out.blk 1 rfl).lt
    have l2 := (H.out.blk 2 rfl).lt
    go_wp2_with fail
    refine (l6Do_any A l c now on bad t A2 ws c2 A3 ns c3 false false inb (sg, bd) _ (H.out.get 0 rfl) (H.out.get 1 rfl) (H.out.get 2 rfl) HXB.out).mono ?_
    rintro e w1 ⟨nowu, Au, lu, cu, onu, badu, tu, A2u, wsu, c2u, A3u, nsu, c3u, sku, gou, inu, A4, L, c4, rfl, hV2, hW2, hN2, hL2, hb2, hin⟩
    replace H : Hid (SP w [(w.heap.size, 32, #[.int .i64 now, .slice A l.length c]), (w.heap.size + 1, 81, #[.bool on, .bool bad, .int .i64 t, .slice A2 ws.length c2, .slice A3 ns.length c3, .bool false, .bool false, .string inb]), (w.heap.size + 1 + 1, 94, #[.string sg, .string bd]), (w.heap.size + 1 + 1 + 1, 32, #[.int .i64 0, .slice none 0 0]), (w.heap.size + 1 + 1 + 1 + 1, 81, #[.bool false, .bool false, .int .i64 0, .slice none 0 0, .slice none 0 0, .bool false, .bool false, .string ⟨#[]⟩])] [fun W => VK W now A l, fun W => WK W A2 ws, fun W => NK W A3 ns, fun W => VK W nowu Au lu, fun W => WK W A2u wsu, fun W => NK W A3u nsu, fun W => LK W A4 L] w1) := Lib.hid (SP.add (SP.add (SP.add (SP.add (H.out.kept hb2) _ VK.c (hV2)) _ WK.c (hW2)) _ NK.c (hN2)) _ LK.c (hL2))
    clear x0_0 x0_1 x1_0 x1_1 x1_2 x1_3 x1_4 x1_5 x1_6 x1_7 x2_0 x2_1 z1_0 z1_1 z1_2 z1_3 z1_4 z1_5 z1_6 z1_7 l0 l1 l2 hb2 hV2 hW2 hN2 hL2
    obtain ⟨x3_0, x3_1⟩ := Blk.q2 (H.out.blk 3 rfl)
    obtain ⟨x4_0, x4_1, x4_2, x4_3, x4_4, x4_5, x4_6, x4_7⟩ := Blk.q8 (H.out.blk 4 rfl)
    obtain ⟨z3_0, z3_1⟩ := Blk.z2 (H.out.blk 3 rfl)
    obtain ⟨z4_0, z4_1, z4_2, z4_3, z4_4, z4_5, z4_6, z4_7⟩ := Blk.z8 (H.out.blk 4 rfl)
    have l3 := (H.out.blk 3 rfl).lt
    have l4 := (H.out.blk 4 rfl).lt
    have HZ := Lib.hid (SP.set (SP.set (SP.set (SP.set (SP.set (SP.set (SP.set (SP.set (SP.set (SP.set (H.out) 3 0 (.int .i64 nowu) rfl (by decide)) 3 1 (.slice Au lu.length cu) rfl (by decide)) 4 0 (.bool onu) rfl (by decide)) 4 1 (.bool badu) rfl (by decide)) 4 2 (.int .i64 tu) rfl (by decide)) 4 3 (.slice A2u wsu.length c2u) rfl (by decide)) 4 4 (.slice A3u nsu.length c3u) rfl (by decide)) 4 5 (.bool sku) rfl (by decide)) 4 6 (.bool gou) rfl (by decide)) 4 7 (.string inu) rfl (by decide))
    clear H
    go_wp2
    refine bodyPost_ret (v := .tuple #[.agg #[.int .i64 nowu, .slice Au lu.length cu], .agg #[.bool onu, .bool badu, .int .i64 tu, .slice A2u wsu.length c2u, .slice A3u nsu.length c3u, .bool sku, .bool gou, .string inu], .slice A4 L.length c4]) ?_ rfl (⟨nowu, Au, lu, cu, onu, badu, tu, A2u, wsu, c2u, A3u, nsu, c3u, sku, gou, inu, A4, L, c4, rfl, HZ.out.get 3 rfl, HZ.out.get 4 rfl, HZ.out.get 5 rfl, HZ.out.get 6 rfl, HZ.out.below, hin⟩)
    simp [results, Try.results134, go_sem, x3_0, x3_1, x4_0, x4_1, x4_2, x4_3, x4_4, x4_5, x4_6, x4_7]
  cases hX : (sg.toList == [88])
  case true =>
    have hX2 : (sg.toList != [88]) = false := by simp [bne, hX]
    obtain ⟨x0_0, x0_1⟩ := Blk.q2 (H.out.blk 0 rfl)
    obtain ⟨x1_0, x1_1, x1_2, x1_3, x1_4, x1_5, x1_6, x1_7⟩ := Blk.q8 (H.out.blk 1 rfl)
    obtain ⟨x2_0, x2_1⟩ := Blk.q2 (H.out.blk 2 rfl)
    obtain ⟨z1_0, z1_1, z1_2, z1_3, z1_4, z1_5, z1_6, z1_7⟩ := Blk.z8 (H.out.blk 1 rfl)
    have l0 := (H.out.blk 0 rfl).lt
    have l1 := (H.out.blk 1 rfl).lt
    have l2 := (H.out.blk 2 rfl).lt
    go_wp2_with fail
    refine (l6Do_any A l c now on bad t A2 ws c2 A3 ns c3 true false inb (sg, bd) _ (H.out.get 0 rfl) (H.out.get 1 rfl) (H.out.get 2 rfl) HXB.out).mono ?_
    rintro e w1 ⟨nowu, Au, lu, cu, onu, badu, tu, A2u, wsu, c2u, A3u, nsu, c3u, sku, gou, inu, A4, L, c4, rfl, hV2, hW2, hN2, hL2, hb2, hin⟩
    replace H : Hid (SP w [(w.heap.size, 32, #[.int .i64 now, .slice A l.length c]), (w.heap.size + 1, 81, #[.bool on, .bool bad, .int .i64 t, .slice A2 ws.length c2, .slice A3 ns.length c3, .bool true, .bool false, .string inb]), (w.heap.size + 1 + 1, 94, #[.string sg, .string bd]), (w.heap.size + 1 + 1 + 1, 32, #[.int .i64 0, .slice none 0 0]), (w.heap.size + 1 + 1 + 1 + 1, 81, #[.bool false, .bool false, .int .i64 0, .slice none 0 0, .slice none 0 0, .bool false, .bool false, .string ⟨#[]⟩])] [fun W => VK W now A l, fun W => WK W A2 ws, fun W => NK W A3 ns, fun W => VK W nowu Au lu, fun W => WK W A2u wsu, fun W => NK W A3u nsu, fun W => LK W A4 L] w1) := Lib.hid (SP.add (SP.add (SP.add (SP.add (H.out.kept hb2) _ VK.c (hV2)) _ WK.c (hW2)) _ NK.c (hN2)) _ LK.c (hL2))
    clear x0_0 x0_1 x1_0 x1_1 x1_2 x1_3 x1_4 x1_5 x1_6 x1_7 x2_0 x2_1 z1_0 z1_1 z1_2 z1_3 z1_4 z1_5 z1_6 z1_7 l0 l1 l2 hb2 hV2 hW2 hN2 hL2
    obtain ⟨x3_0, x3_1⟩ := Blk.q2 (H.out.blk 3 rfl)
    obtain ⟨x4_0, x4_1, x4_2, x4_3, x4_4, x4_5, x4_6, x4_7⟩ := Blk.q8 (H.out.blk 4 rfl)
    obtain ⟨z3_0, z3_1⟩ := Blk.z2 (H.out.blk 3 rfl)
    obtain ⟨z4_0, z4_1, z4_2, z4_3, z4_4, z4_5, z4_6, z4_7⟩ := Blk.z8 (H.out.blk 4 rfl)
    have l3 := (H.out.blk 3 rfl).lt
    have l4 := (H.out.blk 4 rfl).lt
    have HZ := Lib.hid (SP.set (SP.set (SP.set (SP.set (SP.set (SP.set (SP.set (SP.set (SP.set (SP.set (H.out) 3 0 (.int .i64 nowu) rfl (by decide)) 3 1 (.slice Au lu.length cu) rfl (by decide)) 4 0 (.bool onu) rfl (by decide)) 4 1 (.bool badu) rfl (by decide)) 4 2 (.int .i64 tu) rfl (by decide)) 4 3 (.slice A2u wsu.length c2u) rfl (by decide)) 4 4 (.slice A3u nsu.length c3u) rfl (by decide)) 4 5 (.bool sku) rfl (by decide)) 4 6 (.bool gou) rfl (by decide)) 4 7 (.string inu) rfl (by decide))
    clear H
    go_wp2
    refine bodyPost_ret (v := .tuple #[.agg #[.int .i64 nowu, .slice Au lu.length cu], .agg #[.bool onu, .bool badu, .int .i64 tu, .slice A2u wsu.length c2u, .slice A3u nsu.length c3u, .bool sku, .bool gou, .string inu], .slice A4 L.length c4]) ?_ rfl (⟨nowu, Au, lu, cu, onu, badu, tu, A2u, wsu, c2u, A3u, nsu, c3u, sku, gou, inu, A4, L, c4, rfl, HZ.out.get 3 rfl, HZ.out.get 4 rfl, HZ.out.get 5 rfl, HZ.out.get 6 rfl, HZ.out.below, hin⟩)
    simp [results, Try.results134, go_sem, x3_0, x3_1, x4_0, x4_1, x4_2, x4_3, x4_4, x4_5, x4_6, x4_7]
  have hX2 : (sg.toList != [88]) = true := by simp [bne, hX]
  obtain ⟨x0_0, x0_1⟩ := Blk.q2 (H.out.blk 0 rfl)
  obtain ⟨x1_0, x1_1, x1_2, x1_3, x1_4, x1_5, x1_6, x1_7⟩ := Blk.q8 (H.out.blk 1 rfl)
  obtain ⟨x2_0, x2_1⟩ := Blk.q2 (H.out.blk 2 rfl)
  obtain ⟨z3_0, z3_1⟩ := Blk.z2 (H.out.blk 3 rfl)
  obtain ⟨z4_0, z4_1, z4_2, z4_3, z4_4, z4_5, z4_6, z4_7⟩ := Blk.z8 (H.out.blk 4 rfl)
  obtain ⟨x3_0, x3_1⟩ := Blk.q2 (H.out.blk 3 rfl)
  obtain ⟨x4_0, x4_1, x4_2, x4_3, x4_4, x4_5, x4_6, x4_7⟩ := Blk.q8 (H.out.blk 4 rfl)
  have l0 := (H.out.blk 0 rfl).lt
  have l1 := (H.out.blk 1 rfl).lt
  have l3 := (H.out.blk 3 rfl).lt
  have l4 := (H.out.blk 4 rfl).lt
  go_wp2_with fail
  go_region
  all_goals
    have hN1 := LK.emp ((((((((((w0.setCell ⟨w.heap.size + 1 + 1 + 1, 0, none⟩ (.int .i64 now)).setCell ⟨w.heap.size + 1 + 1 + 1, 1, none⟩ (.slice A l.length c)).setCell ⟨w.heap.size + 1 + 1 + 1 + 1, 0, none⟩ (.bool on)).setCell ⟨w.heap.size + 1 + 1 + 1 + 1, 1, none⟩ (.bool bad)).setCell ⟨w.heap.size + 1 + 1 + 1 + 1, 2, none⟩ (.int .i64 t)).setCell ⟨w.heap.size + 1 + 1 + 1 + 1, 3, none⟩ (.slice A2 ws.length c2)).setCell ⟨w.heap.size + 1 + 1 + 1 + 1, 4, none⟩ (.slice A3 ns.length c3)).setCell ⟨w.heap.size + 1 + 1 + 1 + 1, 5, none⟩ (.bool true)).setCell ⟨w.heap.size + 1 + 1 + 1 + 1, 6, none⟩ (.bool false)).setCell ⟨w.heap.size + 1 + 1 + 1 + 1, 7, none⟩ (.string inb)) w0.heap.size (by simp only [World.size_setCell])
    have hlk := kFF ((((((((((w0.setCell ⟨w.heap.size + 1 + 1 + 1, 0, none⟩ (.int .i64 now)).setCell ⟨w.heap.size + 1 + 1 + 1, 1, none⟩ (.slice A l.length c)).setCell ⟨w.heap.size + 1 + 1 + 1 + 1, 0, none⟩ (.bool on)).setCell ⟨w.heap.size + 1 + 1 + 1 + 1, 1, none⟩ (.bool bad)).setCell ⟨w.heap.size + 1 + 1 + 1 + 1, 2, none⟩ (.int .i64 t)).setCell ⟨w.heap.size + 1 + 1 + 1 + 1, 3, none⟩ (.slice A2 ws.length c2)).setCell ⟨w.heap.size + 1 + 1 + 1 + 1, 4, none⟩ (.slice A3 ns.length c3)).setCell ⟨w.heap.size + 1 + 1 + 1 + 1, 5, none⟩ (.bool true)).setCell ⟨w.heap.size + 1 + 1 + 1 + 1, 6, none⟩ (.bool false)).setCell ⟨w.heap.size + 1 + 1 + 1 + 1, 7, none⟩ (.string inb)) (.cells #[] 94)
    have HZ := Lib.hid (SP.kept (SP.add (SP.kept (SP.set (SP.set (SP.set (SP.set (SP.set (SP.set (SP.set (SP.set (SP.set (SP.set (H.out) 3 0 (.int .i64 now) rfl (by decide)) 3 1 (.slice A l.length c) rfl (by decide)) 4 0 (.bool on) rfl (by decide)) 4 1 (.bool bad) rfl (by decide)) 4 2 (.int .i64 t) rfl (by decide)) 4 3 (.slice A2 ws.length c2) rfl (by decide)) 4 4 (.slice A3 ns.length c3) rfl (by decide)) 4 5 (.bool true) rfl (by decide)) 4 6 (.bool false) rfl (by decide)) 4 7 (.string inb) rfl (by decide)) hlk) (fun W => LK W (some ⟨w0.heap.size, 0, none⟩) []) LK.c hN1) (kDB _))
    clear hlk hN1
    go_wp2
    refine bodyPost_ret (v := .tuple #[.agg #[.int .i64 now, .slice A l.length c], .agg #[.bool on, .bool bad, .int .i64 t, .slice A2 ws.length c2, .slice A3 ns.length c3, .bool true, .bool false, .string inb], .slice (some ⟨w0.heap.size, 0, none⟩) 0 0]) ?_ rfl ⟨now, A, l, c, on, bad, t, A2, ws, c2, A3, ns, c3, true, false, inb, some ⟨w0.heap.size, 0, none⟩, [], 0, rfl, HZ.out.get 0 rfl, HZ.out.get 1 rfl, HZ.out.get 2 rfl, HZ.out.get 3 rfl, HZ.out.below, Nat.le_refl _⟩
    simp [results, Try.results134, go_sem, l3, l4, x3_0, x3_1, x4_0, x4_1, x4_2, x4_3, x4_4, x4_5, x4_6, x4_7]
end Go.Proofs.Ytpjkcmmmpgncmaa
