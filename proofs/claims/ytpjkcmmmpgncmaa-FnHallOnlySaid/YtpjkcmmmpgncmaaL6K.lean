import Derived.Test.YtpjkcmmmpgncmaaL6X
import Derived.Test.YtpjkcmmmpgncmaaM32
/- The reference's l6Feed: bytes are answered (bounds). -/
namespace Go.Proofs.Ytpjkcmmmpgncmaa
open Go.RowKit
/-- how l6Feed leaves -/
def FeedP (w : World) (e : Ending) (w' : World) : Prop :=
  ∃ (now : Int) (A : Option Addr) (l : List Ver) (c : Nat) (on bad : Bool) (t : Int) (A2 : Option Addr) (ws : List Wri) (c2 : Nat) (A3 : Option Addr) (ns : List Nm) (c3 : Nat) (skip gone : Bool) (inb : ByteArray) (o : ByteArray), e = .returned (.tuple #[.agg #[.int .i64 now, .slice A l.length c], .agg #[.bool on, .bool bad, .int .i64 t, .slice A2 ws.length c2, .slice A3 ns.length c3, .bool skip, .bool gone, .string inb], .string o]) ∧ VK w' now A l ∧ WK w' A2 ws ∧ NK w' A3 ns ∧ inb.size ≤ 1000 ∧ Below w.heap.size w w'
set_option maxRecDepth 100000 in
set_option maxHeartbeats 16000000 in
theorem l6Feed_any (nowi : Int) (Ai : Option Addr) (li : List Ver) (ci : Nat) (oni badi : Bool) (ti : Int) (A2i : Option Addr) (wsi : List Wri) (c2i : Nat) (A3i : Option Addr) (nsi : List Nm) (c3i : Nat) (skipi gonei : Bool) (inbi : ByteArray) (s : ByteArray) (w : World) (hV : VK w nowi Ai li) (hW : WK w A2i wsi) (hN : NK w A3i nsi) (hi : inbi.size ≤ 1000) (hs : s.size ≤ 400) :
    Calls Try.prog 140 #[.agg #[.int .i64 nowi, .slice Ai li.length ci], .agg #[.bool oni, .bool badi, .int .i64 ti, .slice A2i wsi.length c2i, .slice A3i nsi.length c3i, .bool skipi, .bool gonei, .string inbi], .string s] w (FeedP w) := by
  have hbE := allocAll_below w [(32, #[.int .i64 nowi, .slice Ai li.length ci]), (81, #[.bool oni, .bool badi, .int .i64 ti, .slice A2i wsi.length c2i, .slice A3i nsi.length c3i, .bool skipi, .bool gonei, .string inbi]), (32, #[.int .i64 0, .slice none 0 0]), (81, #[.bool false, .bool false, .int .i64 0, .slice none 0 0, .slice none 0 0, .bool false, .bool false, .string ⟨#[]⟩])]
  have H : Hid (SP w [(w.heap.size, 32, #[.int .i64 nowi, .slice Ai li.length ci]), (w.heap.size + 1, 81, #[.bool oni, .bool badi, .int .i64 ti, .slice A2i wsi.length c2i, .slice A3i nsi.length c3i, .bool skipi, .bool gonei, .string inbi]), (w.heap.size + 1 + 1, 32, #[.int .i64 0, .slice none 0 0]), (w.heap.size + 1 + 1 + 1, 81, #[.bool false, .bool false, .int .i64 0, .slice none 0 0, .slice none 0 0, .bool false, .bool false, .string ⟨#[]⟩])] [fun W => VK W nowi Ai li, fun W => WK W A2i wsi, fun W => NK W A3i nsi] ((allocAll w [(32, #[.int .i64 nowi, .slice Ai li.length ci]), (81, #[.bool oni, .bool badi, .int .i64 ti, .slice A2i wsi.length c2i, .slice A3i nsi.length c3i, .bool skipi, .bool gonei, .string inbi]), (32, #[.int .i64 0, .slice none 0 0]), (81, #[.bool false, .bool false, .int .i64 0, .slice none 0 0, .slice none 0 0, .bool false, .bool false, .string ⟨#[]⟩])]))) := Lib.hid (SP.add (SP.add (SP.add (SP.start w [(32, #[.int .i64 nowi, .slice Ai li.length ci]), (81, #[.bool oni, .bool badi, .int .i64 ti, .slice A2i wsi.length c2i, .slice A3i nsi.length c3i, .bool skipi, .bool gonei, .string inbi]), (32, #[.int .i64 0, .slice none 0 0]), (81, #[.bool false, .bool false, .int .i64 0, .slice none 0 0, .slice none 0 0, .bool false, .bool false, .string ⟨#[]⟩])]) _ VK.c (VK.c _ _ (Kp.below hbE) hV)) _ WK.c (WK.c _ _ (Kp.below hbE) hW)) _ NK.c (NK.c _ _ (Kp.below hbE) hN))
  clear hbE
  go_enter Try.func140, Try.ntmps140
  clear hV hW hN
  go_upto_region 1 with fail
  change Code.wp _ _ _ _ (allocAll w [(32, #[.int .i64 nowi, .slice Ai li.length ci]), (81, #[.bool oni, .bool badi, .int .i64 ti, .slice A2i wsi.length c2i, .slice A3i nsi.length c3i, .bool skipi, .bool gonei, .string inbi]), (32, #[.int .i64 0, .slice none 0 0]), (81, #[.bool false, .bool false, .int .i64 0, .slice none 0 0, .slice none 0 0, .bool false, .bool false, .string ⟨#[]⟩])])
  generalize (allocAll w [(32, #[.int .i64 nowi, .slice Ai li.length ci]), (81, #[.bool oni, .bool badi, .int .i64 ti, .slice A2i wsi.length c2i, .slice A3i nsi.length c3i, .bool skipi, .bool gonei, .string inbi]), (32, #[.int .i64 0, .slice none 0 0]), (81, #[.bool false, .bool false, .int .i64 0, .slice none 0 0, .slice none 0 0, .bool false, .bool false, .string ⟨#[]⟩])]) = w0 at *
  have hb3 : w.heap.size + 1 + 1 + 1 < w0.heap.size := (H.out.blk 3 rfl).lt
  cases gonei
  case true =>
    obtain ⟨x1_0, x1_1, x1_2, x1_3, x1_4, x1_5, x1_6, x1_7⟩ := Blk.q8 (H.out.blk 1 rfl)
    have hB0_0 : ∀ W : World, Blk W (w.heap.size) 32 #[.int .i64 nowi, .slice Ai li.length ci] → W.cell? ⟨w.heap.size, 0, none⟩ = some (.int .i64 nowi) := fun W h => h.cell 0
    have hB0_1 : ∀ W : World, Blk W (w.heap.size) 32 #[.int .i64 nowi, .slice Ai li.length ci] → W.cell? ⟨w.heap.size, 1, none⟩ = some (.slice Ai li.length ci) := fun W h => h.cell 1
    have hB1_0 : ∀ W : World, Blk W (w.heap.size + 1) 81 #[.bool oni, .bool badi, .int .i64 ti, .slice A2i wsi.length c2i, .slice A3i nsi.length c3i, .bool skipi, .bool true, .string inbi] → W.cell? ⟨w.heap.size + 1, 0, none⟩ = some (.bool oni) := fun W h => h.cell 0
    have hB1_1 : ∀ W : World, Blk W (w.heap.size + 1) 81 #[.bool oni, .bool badi, .int .i64 ti, .slice A2i wsi.length c2i, .slice A3i nsi.length c3i, .bool skipi, .bool true, .string inbi] → W.cell? ⟨w.heap.size + 1, 1, none⟩ = some (.bool badi) := fun W h => h.cell 1
    have hB1_2 : ∀ W : World, Blk W (w.heap.size + 1) 81 #[.bool oni, .bool badi, .int .i64 ti, .slice A2i wsi.length c2i, .slice A3i nsi.length c3i, .bool skipi, .bool true, .string inbi] → W.cell? ⟨w.heap.size + 1, 2, none⟩ = some (.int .i64 ti) := fun W h => h.cell 2
    have hB1_3 : ∀ W : World, Blk W (w.heap.size + 1) 81 #[.bool oni, .bool badi, .int .i64 ti, .slice A2i wsi.length c2i, .slice A3i nsi.length c3i, .bool skipi, .bool true, .string inbi] → W.cell? ⟨w.heap.size + 1, 3, none⟩ = some (.slice A2i wsi.length c2i) := fun W h => h.cell 3
    have hB1_4 : ∀ W : World, Blk W (w.heap.size + 1) 81 #[.bool oni, .bool badi, .int .i64 ti, .slice A2i wsi.length c2i, .slice A3i nsi.length c3i, .bool skipi, .bool true, .string inbi] → W.cell? ⟨w.heap.size + 1, 4, none⟩ = some (.slice A3i nsi.length c3i) := fun W h => h.cell 4
    have hB1_5 : ∀ W : World, Blk W (w.heap.size + 1) 81 #[.bool oni, .bool badi, .int .i64 ti, .slice A2i wsi.length c2i, .slice A3i nsi.length c3i, .bool skipi, .bool true, .string inbi] → W.cell? ⟨w.heap.size + 1, 5, none⟩ = some (.bool skipi) := fun W h => h.cell 5
    have hB1_6 : ∀ W : World, Blk W (w.heap.size + 1) 81 #[.bool oni, .bool badi, .int .i64 ti, .slice A2i wsi.length c2i, .slice A3i nsi.length c3i, .bool skipi, .bool true, .string inbi] → W.cell? ⟨w.heap.size + 1, 6, none⟩ = some (.bool true) := fun W h => h.cell 6
    have hB1_7 : ∀ W : World, Blk W (w.heap.size + 1) 81 #[.bool oni, .bool badi, .int .i64 ti, .slice A2i wsi.length c2i, .slice A3i nsi.length c3i, .bool skipi, .bool true, .string inbi] → W.cell? ⟨w.heap.size + 1, 7, none⟩ = some (.string inbi) := fun W h => h.cell 7
    have hb5 : Blk w0 (w.heap.size) 32 #[.int .i64 nowi, .slice Ai li.length ci] := H.out.blk 0 rfl
    have hb6 : Blk w0 (w.heap.size + 1) 81 #[.bool oni, .bool badi, .int .i64 ti, .slice A2i wsi.length c2i, .slice A3i nsi.length c3i, .bool skipi, .bool true, .string inbi] := H.out.blk 1 rfl
    obtain ⟨x2_0, x2_1⟩ := Blk.q2 (H.out.blk 2 rfl)
    obtain ⟨x3_0, x3_1, x3_2, x3_3, x3_4, x3_5, x3_6, x3_7⟩ := Blk.q8 (H.out.blk 3 rfl)
    obtain ⟨z2_0, z2_1⟩ := Blk.z2 (H.out.blk 2 rfl)
    obtain ⟨z3_0, z3_1, z3_2, z3_3, z3_4, z3_5, z3_6, z3_7⟩ := Blk.z8 (H.out.blk 3 rfl)
    have l0 := (H.out.blk 0 rfl).lt
    have l1 := (H.out.blk 1 rfl).lt
    have l2 := (H.out.blk 2 rfl).lt
    have l3 := (H.out.blk 3 rfl).lt
    go_wp2_with fail
    go_region_held3 (fun W => Blk W (w.heap.size) 32 #[.int .i64 nowi, .slice Ai li.length ci] ∧ Blk W (w.heap.size + 1) 81 #[.bool oni, .bool badi, .int .i64 ti, .slice A2i wsi.length c2i, .slice A3i nsi.length c3i, .bool skipi, .bool true, .string inbi])
      ((refine ⟨?_, ?_⟩ <;> (repeat (first | (with_reducible assumption) | (with_reducible refine Blk.drew ?_) | (with_reducible refine Blk.alloc ?_ _) | (with_reducible refine Blk.far ?_ (by simp <;> omega) _)))))
      (fail)
    all_goals
      have HZ := Lib.hid (SP.kept (SP.put8 (SP.put2 H.out 2 (.int .i64 nowi) (.slice Ai li.length ci) rfl (by decide)) 3 (.bool oni) (.bool badi) (.int .i64 ti) (.slice A2i wsi.length c2i) (.slice A3i nsi.length c3i) (.bool skipi) (.bool true) (.string inbi) rfl (by decide)) (kDB _))
      clear hB0_0 hB0_1 hB1_0 hB1_1 hB1_2 hB1_3 hB1_4 hB1_5 hB1_6 hB1_7
      go_wp2
      refine bodyPost_ret (v := .tuple #[.agg #[.int .i64 nowi, .slice Ai li.length ci], .agg #[.bool oni, .bool badi, .int .i64 ti, .slice A2i wsi.length c2i, .slice A3i nsi.length c3i, .bool skipi, .bool true, .string inbi], .string ⟨#[]⟩]) ?_ rfl ⟨nowi, Ai, li, ci, oni, badi, ti, A2i, wsi, c2i, A3i, nsi, c3i, skipi, true, inbi, ⟨#[]⟩, rfl, HZ.out.get 0 rfl, HZ.out.get 1 rfl, HZ.out.get 2 rfl, hi, HZ.out.below⟩
      simp [results, Try.results140, go_sem, x2_0, x2_1, x3_0, x3_1, x3_2, x3_3, x3_4, x3_5, x3_6, x3_7]
  have hcc : ¬ 9223372036854775807 < inbi.size + s.size := by omega
  obtain ⟨al, hal⟩ : ∃ al, al = inbi ++ s := ⟨_, rfl⟩
  have hbr : inbi ++ s = al := hal.symm
  have hal4 : al.size ≤ 1400 := by rw [hal, ByteArray.size_append]; omega
  clear hal
  obtain ⟨x1_0, x1_1, x1_2, x1_3, x1_4, x1_5, x1_6, x1_7⟩ := Blk.q8 (H.out.blk 1 rfl)
  have hO := ownL_nil w0 w0.heap.size w0.heap.size rfl (Nat.le_refl _)
  have HS := Lib.hid (SP.add (H.out.kept (kFF w0 (.cells #[] 94))) (fun W => OwnL W w0.heap.size (.slice (some ⟨w0.heap.size, 0, none⟩) ([] : List Let).length 0) []) OwnL.c hO)
  clear H hO
  go_wp2
  clear hbr x1_0 x1_1 x1_2 x1_3 x1_4 x1_5 x1_6 x1_7
  go_loopg [9, 10, 11, 12, 13, 14] (al.size + 1) (fun kx v9 v10 v11 v12 v13 v14 wr => ∃ (a : ByteArray) (AO : Option Addr) (LO : List Let) (cO : Nat) (now : Int) (A : Option Addr) (l : List Ver) (c : Nat) (on bad : Bool) (t : Int) (A2 : Option Addr) (ws : List Wri) (c2 : Nat) (A3 : Option Addr) (ns : List Nm) (c3 : Nat) (skip gone : Bool) (inb : ByteArray), v9 = .string a ∧ v10 = .slice AO LO.length cO ∧ kx = a.size + (if gone = true then 0 else 1) ∧ a.size ≤ 1400 ∧ inb.size ≤ 1000 ∧ LO.length + 100 * kx ≤ 140200 ∧ Hid (AllL LO) ∧ w0.heap.size ≤ wr.heap.size ∧ Hid (SP w [(w.heap.size, 32, #[.int .i64 now, .slice A l.length c]), (w.heap.size + 1, 81, #[.bool on, .bool bad, .int .i64 t, .slice A2 ws.length c2, .slice A3 ns.length c3, .bool skip, .bool gone, .string inb]), (w.heap.size + 1 + 1, 32, #[.int .i64 0, .slice none 0 0]), (w.heap.size + 1 + 1 + 1, 81, #[.bool false, .bool false, .int .i64 0, .slice none 0 0, .slice none 0 0, .bool false, .bool false, .string ⟨#[]⟩])] [fun W => VK W now A l, fun W => WK W A2 ws, fun W => NK W A3 ns, fun W => OwnL W w0.heap.size (.slice AO LO.length cO) LO] wr))
  case atStart => exact ⟨al, _, [], 0, nowi, Ai, li, ci, oni, badi, ti, A2i, wsi, c2i, A3i, nsi, c3i, skipi, false, inbi, rfl, rfl, by simp, hal4, hi, by simp; omega, Lib.hid AllL.nil, by simp, HS⟩
  case round =>
    clear HS
    obtain ⟨a, AO, LO, cO, now, A, l, c, on, bad, t, A2, ws, c2, A3, ns, c3, skip, gone, inb, rfl, rfl, hkx, ha14, hib, hlo, HLO, hwr, HQ⟩ := hrel
    have H := Lib.hid HQ.out
    clear HQ
    cases gone
    case true =>
      obtain ⟨x1_0, x1_1, x1_2, x1_3, x1_4, x1_5, x1_6, x1_7⟩ := Blk.q8 (H.out.blk 1 rfl)
      have hB0_0 : ∀ W : World, Blk W (w.heap.size) 32 #[.int .i64 now, .slice A l.length c] → W.cell? ⟨w.heap.size, 0, none⟩ = some (.int .i64 now) := fun W h => h.cell 0
      have hB0_1 : ∀ W : World, Blk W (w.heap.size) 32 #[.int .i64 now, .slice A l.length c] → W.cell? ⟨w.heap.size, 1, none⟩ = some (.slice A l.length c) := fun W h => h.cell 1
      have hB1_0 : ∀ W : World, Blk W (w.heap.size + 1) 81 #[.bool on, .bool bad, .int .i64 t, .slice A2 ws.length c2, .slice A3 ns.length c3, .bool skip, .bool true, .string inb] → W.cell? ⟨w.heap.size + 1, 0, none⟩ = some (.bool on) := fun W h => h.cell 0
      have hB1_1 : ∀ W : World, Blk W (w.heap.size + 1) 81 #[.bool on, .bool bad, .int .i64 t, .slice A2 ws.length c2, .slice A3 ns.length c3, .bool skip, .bool true, .string inb] → W.cell? ⟨w.heap.size + 1, 1, none⟩ = some (.bool bad) := fun W h => h.cell 1
      have hB1_2 : ∀ W : World, Blk W (w.heap.size + 1) 81 #[.bool on, .bool bad, .int .i64 t, .slice A2 ws.length c2, .slice A3 ns.length c3, .bool skip, .bool true, .string inb] → W.cell? ⟨w.heap.size + 1, 2, none⟩ = some (.int .i64 t) := fun W h => h.cell 2
      have hB1_3 : ∀ W : World, Blk W (w.heap.size + 1) 81 #[.bool on, .bool bad, .int .i64 t, .slice A2 ws.length c2, .slice A3 ns.length c3, .bool skip, .bool true, .string inb] → W.cell? ⟨w.heap.size + 1, 3, none⟩ = some (.slice A2 ws.length c2) := fun W h => h.cell 3
      have hB1_4 : ∀ W : World, Blk W (w.heap.size + 1) 81 #[.bool on, .bool bad, .int .i64 t, .slice A2 ws.length c2, .slice A3 ns.length c3, .bool skip, .bool true, .string inb] → W.cell? ⟨w.heap.size + 1, 4, none⟩ = some (.slice A3 ns.length c3) := fun W h => h.cell 4
      have hB1_5 : ∀ W : World, Blk W (w.heap.size + 1) 81 #[.bool on, .bool bad, .int .i64 t, .slice A2 ws.length c2, .slice A3 ns.length c3, .bool skip, .bool true, .string inb] → W.cell? ⟨w.heap.size + 1, 5, none⟩ = some (.bool skip) := fun W h => h.cell 5
      have hB1_6 : ∀ W : World, Blk W (w.heap.size + 1) 81 #[.bool on, .bool bad, .int .i64 t, .slice A2 ws.length c2, .slice A3 ns.length c3, .bool skip, .bool true, .string inb] → W.cell? ⟨w.heap.size + 1, 6, none⟩ = some (.bool true) := fun W h => h.cell 6
      have hB1_7 : ∀ W : World, Blk W (w.heap.size + 1) 81 #[.bool on, .bool bad, .int .i64 t, .slice A2 ws.length c2, .slice A3 ns.length c3, .bool skip, .bool true, .string inb] → W.cell? ⟨w.heap.size + 1, 7, none⟩ = some (.string inb) := fun W h => h.cell 7
      have hb5 : Blk wr (w.heap.size) 32 #[.int .i64 now, .slice A l.length c] := H.out.blk 0 rfl
      have hb6 : Blk wr (w.heap.size + 1) 81 #[.bool on, .bool bad, .int .i64 t, .slice A2 ws.length c2, .slice A3 ns.length c3, .bool skip, .bool true, .string inb] := H.out.blk 1 rfl
      go_wp2_with fail
      replace H := Lib.hid (H.out.kept (kDB wr))
      go_region_held3 (fun W => Blk W (w.heap.size) 32 #[.int .i64 now, .slice A l.length c] ∧ Blk W (w.heap.size + 1) 81 #[.bool on, .bool bad, .int .i64 t, .slice A2 ws.length c2, .slice A3 ns.length c3, .bool skip, .bool true, .string inb])
        ((refine ⟨?_, ?_⟩ <;> (repeat (first | (with_reducible assumption) | (with_reducible refine Blk.drew ?_) | (with_reducible refine Blk.alloc ?_ _) | (with_reducible refine Blk.far ?_ (by simp <;> omega) _)))))
        (first
          | (go_at_call 138
             refine (textsB_any AO LO cO _ (by omega) (H.out.get 3 rfl).reads (fun x hx => ⟨Nat.le_trans (HLO.out x hx).1 (by decide), Nat.le_trans (HLO.out x hx).2 (by decide)⟩)).mono ?_
             rintro e wz ⟨o, rfl, _, hbz⟩
             replace H := Lib.hid (H.out.kept hbz)
             have hc0 : Blk wz (w.heap.size) 32 #[.int .i64 now, .slice A l.length c] := H.out.blk 0 rfl
             have hc1 : Blk wz (w.heap.size + 1) 81 #[.bool on, .bool bad, .int .i64 t, .slice A2 ws.length c2, .slice A3 ns.length c3, .bool skip, .bool true, .string inb] := H.out.blk 1 rfl
             have hkk : wz.cell? ⟨w.heap.size + 1 + 1, 0, none⟩ = some (.int .i64 0) ∧ wz.cell? ⟨w.heap.size + 1 + 1, 1, none⟩ = some (.slice none 0 0) ∧ wz.cell? ⟨w.heap.size + 1 + 1 + 1, 0, none⟩ = some (.bool false) ∧ wz.cell? ⟨w.heap.size + 1 + 1 + 1, 1, none⟩ = some (.bool false) ∧ wz.cell? ⟨w.heap.size + 1 + 1 + 1, 2, none⟩ = some (.int .i64 0) ∧ wz.cell? ⟨w.heap.size + 1 + 1 + 1, 3, none⟩ = some (.slice none 0 0) ∧ wz.cell? ⟨w.heap.size + 1 + 1 + 1, 4, none⟩ = some (.slice none 0 0) ∧ wz.cell? ⟨w.heap.size + 1 + 1 + 1, 5, none⟩ = some (.bool false) ∧ wz.cell? ⟨w.heap.size + 1 + 1 + 1, 6, none⟩ = some (.bool false) ∧ wz.cell? ⟨w.heap.size + 1 + 1 + 1, 7, none⟩ = some (.string ⟨#[]⟩) := ⟨(H.out.blk 2 rfl).cell 0, (H.out.blk 2 rfl).cell 1, (H.out.blk 3 rfl).cell 0, (H.out.blk 3 rfl).cell 1, (H.out.blk 3 rfl).cell 2, (H.out.blk 3 rfl).cell 3, (H.out.blk 3 rfl).cell 4, (H.out.blk 3 rfl).cell 5, (H.out.blk 3 rfl).cell 6, (H.out.blk 3 rfl).cell 7⟩
             have hf2 := fun j => (H.out.blk 2 rfl).frozen j
             have hf3 := fun j => (H.out.blk 3 rfl).frozen j
             have hl2 := (H.out.blk 2 rfl).lt
             have hl3 := (H.out.blk 3 rfl).lt
             clear hbz)
          | fail)
      all_goals
        have HZ := Lib.hid (SP.put8 (SP.put2 H.out 2 (.int .i64 now) (.slice A l.length c) rfl (by decide)) 3 (.bool on) (.bool bad) (.int .i64 t) (.slice A2 ws.length c2) (.slice A3 ns.length c3) (.bool skip) (.bool true) (.string inb) rfl (by decide))
        clear hB0_0 hB0_1 hB1_0 hB1_1 hB1_2 hB1_3 hB1_4 hB1_5 hB1_6 hB1_7
        go_wp2
        refine bodyPost_ret (v := .tuple #[.agg #[.int .i64 now, .slice A l.length c], .agg #[.bool on, .bool bad, .int .i64 t, .slice A2 ws.length c2, .slice A3 ns.length c3, .bool skip, .bool true, .string inb], .string o]) ?_ rfl ⟨now, A, l, c, on, bad, t, A2, ws, c2, A3, ns, c3, skip, true, inb, _, rfl, HZ.out.get 0 rfl, HZ.out.get 1 rfl, HZ.out.get 2 rfl, hib, HZ.out.below⟩
        simp [results, Try.results140, go_sem, hkk]
    simp only [Bool.false_eq_true, if_false] at hkx
    obtain ⟨x1_0, x1_1, x1_2, x1_3, x1_4, x1_5, x1_6, x1_7⟩ := Blk.q8 (H.out.blk 1 rfl)
    go_wp2_with fail
    refine (specTake_any a _ (by omega)).mono ?_
    rintro e w1 ⟨rfl, hb1⟩
    have hts := take_size a
    have htw := takeW_size a
    have htf := takeF_size a
    have hw1 : w0.heap.size ≤ w1.heap.size := Nat.le_trans hwr hb1.size
    replace H := Lib.hid (H.out.kept hb1)
    clear x1_0 x1_1 x1_2 x1_3 x1_4 x1_5 x1_6 x1_7 hb1
    have htc := takeC_or a
    generalize takeC a = tc at *
    generalize takeN a = tn at *
    generalize takeL a = tl at *
    obtain ⟨sg, bd⟩ := tl
    simp only at hts ⊢
    have hs1 : w1.heap.size + 1 ≤ (w1.alloc (.cells #[.string sg, .string bd] 94)).heap.size := by rw [World.size_alloc]; exact Nat.le_refl _
    rcases htc with rfl | rfl | rfl
    case inl =>
      go_upto_region 11 with fail
      have hLb := (Blk.new w1 94 #[.string sg, .string bd]).alloc (.cells #[] 94)
      replace H := Lib.hid (H.out.kept (bthen (kFF w1 (.cells #[.string sg, .string bd] 94)) (kFF (w1.alloc (.cells #[.string sg, .string bd] 94)) (.cells #[] 94))))
      have hwE : w0.heap.size ≤ ((w1.alloc (.cells #[.string sg, .string bd] 94)).alloc (.cells #[] 94)).heap.size := by simp only [World.size_alloc]; omega
      generalize (w1.alloc (.cells #[.string sg, .string bd] 94)).alloc (.cells #[] 94) = w2 at *
      obtain ⟨ht3, htn⟩ := htf rfl
      clear htw htf
      have y0 : w2.cell? ⟨w1.heap.size, 0, none⟩ = some (.string sg) := hLb.cell 0
      have y1 : w2.cell? ⟨w1.heap.size, 1, none⟩ = some (.string bd) := hLb.cell 1
      obtain ⟨x0_0, x0_1⟩ := Blk.q2 (H.out.blk 0 rfl)
      obtain ⟨x1_0, x1_1, x1_2, x1_3, x1_4, x1_5, x1_6, x1_7⟩ := Blk.q8 (H.out.blk 1 rfl)
      go_wp2_with fail
      refine (l6Letter_any A l c now on bad t A2 ws c2 A3 ns c3 skip false inb (sg, bd) _ (H.out.get 0 rfl) (H.out.get 1 rfl) (H.out.get 2 rfl) (by simp only; omega)).mono ?_
      rintro e w3 ⟨nowu, Au, lu, cu, onu, badu, tu, A2u, wsu, c2u, A3u, nsu, c3u, skipu, goneu, inbu, A4, L, c4, rfl, hV2, hW2, hN2, hL2, hb2, hin⟩
      have hw3 : w0.heap.size ≤ w3.heap.size := Nat.le_trans hwE hb2.size
      replace H : Hid (SP w [(w.heap.size, 32, #[.int .i64 now, .slice A l.length c]), (w.heap.size + 1, 81, #[.bool on, .bool bad, .int .i64 t, .slice A2 ws.length c2, .slice A3 ns.length c3, .bool skip, .bool false, .string inb]), (w.heap.size + 1 + 1, 32, #[.int .i64 0, .slice none 0 0]), (w.heap.size + 1 + 1 + 1, 81, #[.bool false, .bool false, .int .i64 0, .slice none 0 0, .slice none 0 0, .bool false, .bool false, .string ⟨#[]⟩])] [fun W => VK W now A l, fun W => WK W A2 ws, fun W => NK W A3 ns, fun W => OwnL W w0.heap.size (.slice AO LO.length cO) LO, fun W => VK W nowu Au lu, fun W => WK W A2u wsu, fun W => NK W A3u nsu, fun W => LK W A4 L] w3) := Lib.hid (SP.add (SP.add (SP.add (SP.add (H.out.kept hb2) _ VK.c (hV2)) _ WK.c (hW2)) _ NK.c (hN2)) _ LK.c (hL2))
      clear x0_0 x0_1 x1_0 x1_1 x1_2 x1_3 x1_4 x1_5 x1_6 x1_7 hb2 hV2 hW2 hN2 hL2 y0 y1 hLb
      obtain ⟨x0_0, x0_1⟩ := Blk.q2 (H.out.blk 0 rfl)
      obtain ⟨x1_0, x1_1, x1_2, x1_3, x1_4, x1_5, x1_6, x1_7⟩ := Blk.q8 (H.out.blk 1 rfl)
      obtain ⟨z0_0, z0_1⟩ := Blk.z2 (H.out.blk 0 rfl)
      obtain ⟨z1_0, z1_1, z1_2, z1_3, z1_4, z1_5, z1_6, z1_7⟩ := Blk.z8 (H.out.blk 1 rfl)
      have l0 := (H.out.blk 0 rfl).lt
      have l1 := (H.out.blk 1 rfl).lt
      have hL4 : L.length ≤ 100 := (H.out.get 7 rfl).2.2
      have htI : (tn : Int) ≤ (a.size : Int) := by omega
      have htI0 : (0 : Int) ≤ (tn : Int) := by omega
      have hasz : (a.extract tn a.size).size = a.size - tn := by rw [ByteArray.size_extract]; omega
      obtain ⟨gz, hgz, hgz1⟩ : ∃ gz : Nat, gz = (if goneu = true then 0 else 1) ∧ gz ≤ 1 := ⟨_, rfl, by split <;> omega⟩
      have HZ := Lib.hid (SP.put8 (SP.put2 H.out 0 (.int .i64 nowu) (.slice Au lu.length cu) rfl (by decide)) 1 (.bool onu) (.bool badu) (.int .i64 tu) (.slice A2u wsu.length c2u) (.slice A3u nsu.length c3u) (.bool skipu) (.bool goneu) (.string inbu) rfl (by decide))
      obtain ⟨i0, hi0, hz0, hz1, hz2⟩ := info_parts infoLet
      have HI := Lib.hid (⟨hi0, hz0, hz1, hz2⟩ : _ ∧ _ ∧ _ ∧ _)
      clear hi0 hz0 hz1 hz2
      have HOW := Lib.hid (HZ.out.get 3 rfl)
      have HLK := Lib.hid (HZ.out.get 7 rfl)
      have H3 : Hid (SP w [(w.heap.size, 32, #[.int .i64 nowu, .slice Au lu.length cu]), (w.heap.size + 1, 81, #[.bool onu, .bool badu, .int .i64 tu, .slice A2u wsu.length c2u, .slice A3u nsu.length c3u, .bool skipu, .bool goneu, .string inbu]), (w.heap.size + 1 + 1, 32, #[.int .i64 0, .slice none 0 0]), (w.heap.size + 1 + 1 + 1, 81, #[.bool false, .bool false, .int .i64 0, .slice none 0 0, .slice none 0 0, .bool false, .bool false, .string ⟨#[]⟩])] [fun W => VK W nowu Au lu, fun W => WK W A2u wsu, fun W => NK W A3u nsu] ((((((((((w3.setCell ⟨w.heap.size, 0, none⟩ (.int .i64 nowu)).setCell ⟨w.heap.size, 1, none⟩ (.slice Au lu.length cu)).setCell ⟨w.heap.size + 1, 0, none⟩ (.bool onu)).setCell ⟨w.heap.size + 1, 1, none⟩ (.bool badu)).setCell ⟨w.heap.size + 1, 2, none⟩ (.int .i64 tu)).setCell ⟨w.heap.size + 1, 3, none⟩ (.slice A2u wsu.length c2u)).setCell ⟨w.heap.size + 1, 4, none⟩ (.slice A3u nsu.length c3u)).setCell ⟨w.heap.size + 1, 5, none⟩ (.bool skipu)).setCell ⟨w.heap.size + 1, 6, none⟩ (.bool goneu)).setCell ⟨w.heap.size + 1, 7, none⟩ (.string inbu))) := Lib.hid ⟨HZ.out.1, List.forall_mem_cons.2 ⟨⟨VK.c, HZ.out.get 4 rfl⟩, List.forall_mem_cons.2 ⟨⟨WK.c, HZ.out.get 5 rfl⟩, List.forall_mem_cons.2 ⟨⟨NK.c, HZ.out.get 6 rfl⟩, fun P hP => absurd hP (by simp)⟩⟩⟩⟩
      have hBS : w0.heap.size ≤ ((((((((((w3.setCell ⟨w.heap.size, 0, none⟩ (.int .i64 nowu)).setCell ⟨w.heap.size, 1, none⟩ (.slice Au lu.length cu)).setCell ⟨w.heap.size + 1, 0, none⟩ (.bool onu)).setCell ⟨w.heap.size + 1, 1, none⟩ (.bool badu)).setCell ⟨w.heap.size + 1, 2, none⟩ (.int .i64 tu)).setCell ⟨w.heap.size + 1, 3, none⟩ (.slice A2u wsu.length c2u)).setCell ⟨w.heap.size + 1, 4, none⟩ (.slice A3u nsu.length c3u)).setCell ⟨w.heap.size + 1, 5, none⟩ (.bool skipu)).setCell ⟨w.heap.size + 1, 6, none⟩ (.bool goneu)).setCell ⟨w.heap.size + 1, 7, none⟩ (.string inbu)).heap.size := by simp only [World.size_setCell]; assumption
      have hlo2 : LO.length ≤ 140200 := by omega
      clear H HZ
      go_wp2_with (first
        | (at_builtin; refine wpList_append_slM (enc := encLet) rfl (.tmp 60) (.tmp 61) 49 rfl w0.heap.size 94 i0 (.agg #[.string ⟨#[]⟩, .string ⟨#[]⟩]) 2 32 Try.underlying49 HI.out.1 HI.out.2.1 HI.out.2.2.1 HI.out.2.2.2 rfl (by decide) (.slice AO LO.length cO) LO.length (LO.flatMap encLet) rfl HOW.out encLet_len A4 L L.length c4 rfl (by first | rfl | simp [Act.eval]) HLK.out.1.sl (encLet_one _) (by unfold maxLen; omega) (by omega) hBS ?_; intro v8 w8 ho8 hg8 _; have hn8 := SP.grownO H3.out HOW.out hg8 (by intro b hb; simp at hb; rcases hb with rfl | rfl | rfl | rfl <;> simp <;> omega) (by omega) (List.forall_mem_cons.2 ⟨VK.l, List.forall_mem_cons.2 ⟨WK.l, List.forall_mem_cons.2 ⟨NK.l, fun P hP => absurd hP (by simp)⟩⟩⟩); obtain ⟨M, hM, hAM, hoM⟩ : ∃ M : List Let, M.length = LO.length + L.length ∧ AllL M ∧ OwnL w8 w0.heap.size v8 M := ⟨LO ++ L, by simp, HLO.out.app HLK.out.2.1, ownL_appL ho8⟩; obtain ⟨A8, c8, rfl, _, _, _⟩ := hoM.sl; have H := Lib.hid (SP.add hn8 (fun W => OwnL W w0.heap.size (.slice A8 M.length c8) M) OwnL.c hoM); have HAM := Lib.hid hAM; have HM := Lib.hid hM; have hBS8 : w0.heap.size ≤ w8.heap.size := Nat.le_trans hBS hg8.size; clear hn8 ho8 hg8 hM hAM hoM)
        | fail)
      have hM9 := HM.out
      go_roundg ((a.extract tn a.size).size + (if goneu = true then 0 else 1))
      case measure => omega
      case rel => exact ⟨a.extract tn a.size, A8, M, c8, nowu, Au, lu, cu, onu, badu, tu, A2u, wsu, c2u, A3u, nsu, c3u, skipu, goneu, inbu, rfl, rfl, by first | rfl | simp, by omega, Nat.le_trans hin hib, by omega, HAM, hBS8, H⟩
    case inr.inl =>
      go_upto_region 11 with fail
      have hLb := (Blk.new w1 94 #[.string sg, .string bd]).alloc (.cells #[] 94)
      replace H := Lib.hid (H.out.kept (bthen (kFF w1 (.cells #[.string sg, .string bd] 94)) (kFF (w1.alloc (.cells #[.string sg, .string bd] 94)) (.cells #[] 94))))
      have hwE : w0.heap.size ≤ ((w1.alloc (.cells #[.string sg, .string bd] 94)).alloc (.cells #[] 94)).heap.size := by simp only [World.size_alloc]; omega
      generalize (w1.alloc (.cells #[.string sg, .string bd] 94)).alloc (.cells #[] 94) = w2 at *
      have ht43 := htw rfl
      clear htw htf hLb
      obtain ⟨x1_0, x1_1, x1_2, x1_3, x1_4, x1_5, x1_6, x1_7⟩ := Blk.q8 (H.out.blk 1 rfl)
      obtain ⟨z1_0, z1_1, z1_2, z1_3, z1_4, z1_5, z1_6, z1_7⟩ := Blk.z8 (H.out.blk 1 rfl)
      have l0 := (H.out.blk 0 rfl).lt
      have l1 := (H.out.blk 1 rfl).lt
      go_upto_region 13 with fail
      have H := Lib.hid (SP.set H.out 1 7 (.string a) rfl (by decide))
      clear x1_0 x1_1 x1_2 x1_3 x1_4 x1_5 x1_6 x1_7 z1_0 z1_1 z1_2 z1_3 z1_4 z1_5 z1_6 z1_7 l0 l1
      generalize w2.setCell ⟨w.heap.size + 1, 7, none⟩ (.string a) = w3 at *
      have H : Hid (SP w [(w.heap.size, 32, #[.int .i64 now, .slice A l.length c]), (w.heap.size + 1, 81, #[.bool on, .bool bad, .int .i64 t, .slice A2 ws.length c2, .slice A3 ns.length c3, .bool skip, .bool false, .string a]), (w.heap.size + 1 + 1, 32, #[.int .i64 0, .slice none 0 0]), (w.heap.size + 1 + 1 + 1, 81, #[.bool false, .bool false, .int .i64 0, .slice none 0 0, .slice none 0 0, .bool false, .bool false, .string ⟨#[]⟩])] [fun W => VK W now A l, fun W => WK W A2 ws, fun W => NK W A3 ns, fun W => OwnL W w0.heap.size (.slice AO LO.length cO) LO] w3) := Lib.hid H.out
      have hB0_0 : ∀ W : World, Blk W (w.heap.size) 32 #[.int .i64 now, .slice A l.length c] → W.cell? ⟨w.heap.size, 0, none⟩ = some (.int .i64 now) := fun W h => h.cell 0
      have hB0_1 : ∀ W : World, Blk W (w.heap.size) 32 #[.int .i64 now, .slice A l.length c] → W.cell? ⟨w.heap.size, 1, none⟩ = some (.slice A l.length c) := fun W h => h.cell 1
      have hB1_0 : ∀ W : World, Blk W (w.heap.size + 1) 81 #[.bool on, .bool bad, .int .i64 t, .slice A2 ws.length c2, .slice A3 ns.length c3, .bool skip, .bool false, .string a] → W.cell? ⟨w.heap.size + 1, 0, none⟩ = some (.bool on) := fun W h => h.cell 0
      have hB1_1 : ∀ W : World, Blk W (w.heap.size + 1) 81 #[.bool on, .bool bad, .int .i64 t, .slice A2 ws.length c2, .slice A3 ns.length c3, .bool skip, .bool false, .string a] → W.cell? ⟨w.heap.size + 1, 1, none⟩ = some (.bool bad) := fun W h => h.cell 1
      have hB1_2 : ∀ W : World, Blk W (w.heap.size + 1) 81 #[.bool on, .bool bad, .int .i64 t, .slice A2 ws.length c2, .slice A3 ns.length c3, .bool skip, .bool false, .string a] → W.cell? ⟨w.heap.size + 1, 2, none⟩ = some (.int .i64 t) := fun W h => h.cell 2
      have hB1_3 : ∀ W : World, Blk W (w.heap.size + 1) 81 #[.bool on, .bool bad, .int .i64 t, .slice A2 ws.length c2, .slice A3 ns.length c3, .bool skip, .bool false, .string a] → W.cell? ⟨w.heap.size + 1, 3, none⟩ = some (.slice A2 ws.length c2) := fun W h => h.cell 3
      have hB1_4 : ∀ W : World, Blk W (w.heap.size + 1) 81 #[.bool on, .bool bad, .int .i64 t, .slice A2 ws.length c2, .slice A3 ns.length c3, .bool skip, .bool false, .string a] → W.cell? ⟨w.heap.size + 1, 4, none⟩ = some (.slice A3 ns.length c3) := fun W h => h.cell 4
      have hB1_5 : ∀ W : World, Blk W (w.heap.size + 1) 81 #[.bool on, .bool bad, .int .i64 t, .slice A2 ws.length c2, .slice A3 ns.length c3, .bool skip, .bool false, .string a] → W.cell? ⟨w.heap.size + 1, 5, none⟩ = some (.bool skip) := fun W h => h.cell 5
      have hB1_6 : ∀ W : World, Blk W (w.heap.size + 1) 81 #[.bool on, .bool bad, .int .i64 t, .slice A2 ws.length c2, .slice A3 ns.length c3, .bool skip, .bool false, .string a] → W.cell? ⟨w.heap.size + 1, 6, none⟩ = some (.bool false) := fun W h => h.cell 6
      have hB1_7 : ∀ W : World, Blk W (w.heap.size + 1) 81 #[.bool on, .bool bad, .int .i64 t, .slice A2 ws.length c2, .slice A3 ns.length c3, .bool skip, .bool false, .string a] → W.cell? ⟨w.heap.size + 1, 7, none⟩ = some (.string a) := fun W h => h.cell 7
      have hb5 : Blk w3 (w.heap.size) 32 #[.int .i64 now, .slice A l.length c] := H.out.blk 0 rfl
      have hb6 : Blk w3 (w.heap.size + 1) 81 #[.bool on, .bool bad, .int .i64 t, .slice A2 ws.length c2, .slice A3 ns.length c3, .bool skip, .bool false, .string a] := H.out.blk 1 rfl
      go_wp2_with fail
      replace H := Lib.hid (H.out.kept (kDB w3))
      go_region_held3 (fun W => Blk W (w.heap.size) 32 #[.int .i64 now, .slice A l.length c] ∧ Blk W (w.heap.size + 1) 81 #[.bool on, .bool bad, .int .i64 t, .slice A2 ws.length c2, .slice A3 ns.length c3, .bool skip, .bool false, .string a])
        ((refine ⟨?_, ?_⟩ <;> (repeat (first | (with_reducible assumption) | (with_reducible refine Blk.drew ?_) | (with_reducible refine Blk.alloc ?_ _) | (with_reducible refine Blk.far ?_ (by simp <;> omega) _)))))
        (first
          | (go_at_call 138
             refine (textsB_any AO LO cO _ (by omega) (H.out.get 3 rfl).reads (fun x hx => ⟨Nat.le_trans (HLO.out x hx).1 (by decide), Nat.le_trans (HLO.out x hx).2 (by decide)⟩)).mono ?_
             rintro e wz ⟨o, rfl, _, hbz⟩
             replace H := Lib.hid (H.out.kept hbz)
             have hc0 : Blk wz (w.heap.size) 32 #[.int .i64 now, .slice A l.length c] := H.out.blk 0 rfl
             have hc1 : Blk wz (w.heap.size + 1) 81 #[.bool on, .bool bad, .int .i64 t, .slice A2 ws.length c2, .slice A3 ns.length c3, .bool skip, .bool false, .string a] := H.out.blk 1 rfl
             have hkk : wz.cell? ⟨w.heap.size + 1 + 1, 0, none⟩ = some (.int .i64 0) ∧ wz.cell? ⟨w.heap.size + 1 + 1, 1, none⟩ = some (.slice none 0 0) ∧ wz.cell? ⟨w.heap.size + 1 + 1 + 1, 0, none⟩ = some (.bool false) ∧ wz.cell? ⟨w.heap.size + 1 + 1 + 1, 1, none⟩ = some (.bool false) ∧ wz.cell? ⟨w.heap.size + 1 + 1 + 1, 2, none⟩ = some (.int .i64 0) ∧ wz.cell? ⟨w.heap.size + 1 + 1 + 1, 3, none⟩ = some (.slice none 0 0) ∧ wz.cell? ⟨w.heap.size + 1 + 1 + 1, 4, none⟩ = some (.slice none 0 0) ∧ wz.cell? ⟨w.heap.size + 1 + 1 + 1, 5, none⟩ = some (.bool false) ∧ wz.cell? ⟨w.heap.size + 1 + 1 + 1, 6, none⟩ = some (.bool false) ∧ wz.cell? ⟨w.heap.size + 1 + 1 + 1, 7, none⟩ = some (.string ⟨#[]⟩) := ⟨(H.out.blk 2 rfl).cell 0, (H.out.blk 2 rfl).cell 1, (H.out.blk 3 rfl).cell 0, (H.out.blk 3 rfl).cell 1, (H.out.blk 3 rfl).cell 2, (H.out.blk 3 rfl).cell 3, (H.out.blk 3 rfl).cell 4, (H.out.blk 3 rfl).cell 5, (H.out.blk 3 rfl).cell 6, (H.out.blk 3 rfl).cell 7⟩
             have hf2 := fun j => (H.out.blk 2 rfl).frozen j
             have hf3 := fun j => (H.out.blk 3 rfl).frozen j
             have hl2 := (H.out.blk 2 rfl).lt
             have hl3 := (H.out.blk 3 rfl).lt
             clear hbz)
          | fail)
      all_goals
        have HZ := Lib.hid (SP.put8 (SP.put2 H.out 2 (.int .i64 now) (.slice A l.length c) rfl (by decide)) 3 (.bool on) (.bool bad) (.int .i64 t) (.slice A2 ws.length c2) (.slice A3 ns.length c3) (.bool skip) (.bool false) (.string a) rfl (by decide))
        clear hB0_0 hB0_1 hB1_0 hB1_1 hB1_2 hB1_3 hB1_4 hB1_5 hB1_6 hB1_7
        go_wp2
        refine bodyPost_ret (v := .tuple #[.agg #[.int .i64 now, .slice A l.length c], .agg #[.bool on, .bool bad, .int .i64 t, .slice A2 ws.length c2, .slice A3 ns.length c3, .bool skip, .bool false, .string a], .string o]) ?_ rfl ⟨now, A, l, c, on, bad, t, A2, ws, c2, A3, ns, c3, skip, false, a, _, rfl, HZ.out.get 0 rfl, HZ.out.get 1 rfl, HZ.out.get 2 rfl, by omega, HZ.out.below⟩
        simp [results, Try.results140, go_sem, hkk]
    case inr.inr =>
      go_upto_region 11 with fail
      have hLb := (Blk.new w1 94 #[.string sg, .string bd]).alloc (.cells #[] 94)
      replace H := Lib.hid (H.out.kept (bthen (kFF w1 (.cells #[.string sg, .string bd] 94)) (kFF (w1.alloc (.cells #[.string sg, .string bd] 94)) (.cells #[] 94))))
      have hwE : w0.heap.size ≤ ((w1.alloc (.cells #[.string sg, .string bd] 94)).alloc (.cells #[] 94)).heap.size := by simp only [World.size_alloc]; omega
      generalize (w1.alloc (.cells #[.string sg, .string bd] 94)).alloc (.cells #[] 94) = w2 at *
      clear htw htf hLb
      go_wp2_with fail
      refine (l6Fatal_any _).mono ?_
      rintro e w3 ⟨A4, L, c4, rfl, hL2, hb2⟩
      have hw3 : w0.heap.size ≤ w3.heap.size := Nat.le_trans hwE hb2.size
      replace H : Hid (SP w [(w.heap.size, 32, #[.int .i64 now, .slice A l.length c]), (w.heap.size + 1, 81, #[.bool on, .bool bad, .int .i64 t, .slice A2 ws.length c2, .slice A3 ns.length c3, .bool skip, .bool false, .string inb]), (w.heap.size + 1 + 1, 32, #[.int .i64 0, .slice none 0 0]), (w.heap.size + 1 + 1 + 1, 81, #[.bool false, .bool false, .int .i64 0, .slice none 0 0, .slice none 0 0, .bool false, .bool false, .string ⟨#[]⟩])] [fun W => VK W now A l, fun W => WK W A2 ws, fun W => NK W A3 ns, fun W => OwnL W w0.heap.size (.slice AO LO.length cO) LO, fun W => WK W none [], fun W => NK W none [], fun W => LK W A4 L] w3) := Lib.hid (SP.add (SP.add (SP.add (H.out.kept hb2) _ WK.c (WK.nil _ _)) _ NK.c (NK.nil _ _)) _ LK.c (hL2))
      clear hb2 hL2
      obtain ⟨x1_0, x1_1, x1_2, x1_3, x1_4, x1_5, x1_6, x1_7⟩ := Blk.q8 (H.out.blk 1 rfl)
      obtain ⟨z1_0, z1_1, z1_2, z1_3, z1_4, z1_5, z1_6, z1_7⟩ := Blk.z8 (H.out.blk 1 rfl)
      have l0 := (H.out.blk 0 rfl).lt
      have l1 := (H.out.blk 1 rfl).lt
      have hL4 : L.length ≤ 100 := (H.out.get 6 rfl).2.2
      have HZ := Lib.hid (SP.put8 H.out 1 (.bool false) (.bool false) (.int .i64 0) (.slice none 0 0) (.slice none 0 0) (.bool false) (.bool true) (.string ⟨#[]⟩) rfl (by decide))
      obtain ⟨i0, hi0, hz0, hz1, hz2⟩ := info_parts infoLet
      have HI := Lib.hid (⟨hi0, hz0, hz1, hz2⟩ : _ ∧ _ ∧ _ ∧ _)
      clear hi0 hz0 hz1 hz2
      have HOW := Lib.hid (HZ.out.get 3 rfl)
      have HLK := Lib.hid (HZ.out.get 6 rfl)
      have H3 : Hid (SP w [(w.heap.size, 32, #[.int .i64 now, .slice A l.length c]), (w.heap.size + 1, 81, #[.bool false, .bool false, .int .i64 0, .slice none 0 0, .slice none 0 0, .bool false, .bool true, .string ⟨#[]⟩]), (w.heap.size + 1 + 1, 32, #[.int .i64 0, .slice none 0 0]), (w.heap.size + 1 + 1 + 1, 81, #[.bool false, .bool false, .int .i64 0, .slice none 0 0, .slice none 0 0, .bool false, .bool false, .string ⟨#[]⟩])] [fun W => VK W now A l, fun W => WK W none [], fun W => NK W none []] ((((((((w3.setCell ⟨w.heap.size + 1, 0, none⟩ (.bool false)).setCell ⟨w.heap.size + 1, 1, none⟩ (.bool false)).setCell ⟨w.heap.size + 1, 2, none⟩ (.int .i64 0)).setCell ⟨w.heap.size + 1, 3, none⟩ (.slice none 0 0)).setCell ⟨w.heap.size + 1, 4, none⟩ (.slice none 0 0)).setCell ⟨w.heap.size + 1, 5, none⟩ (.bool false)).setCell ⟨w.heap.size + 1, 6, none⟩ (.bool true)).setCell ⟨w.heap.size + 1, 7, none⟩ (.string ⟨#[]⟩))) := Lib.hid ⟨HZ.out.1, List.forall_mem_cons.2 ⟨⟨VK.c, HZ.out.get 0 rfl⟩, List.forall_mem_cons.2 ⟨⟨WK.c, HZ.out.get 4 rfl⟩, List.forall_mem_cons.2 ⟨⟨NK.c, HZ.out.get 5 rfl⟩, fun P hP => absurd hP (by simp)⟩⟩⟩⟩
      have hBS : w0.heap.size ≤ ((((((((w3.setCell ⟨w.heap.size + 1, 0, none⟩ (.bool false)).setCell ⟨w.heap.size + 1, 1, none⟩ (.bool false)).setCell ⟨w.heap.size + 1, 2, none⟩ (.int .i64 0)).setCell ⟨w.heap.size + 1, 3, none⟩ (.slice none 0 0)).setCell ⟨w.heap.size + 1, 4, none⟩ (.slice none 0 0)).setCell ⟨w.heap.size + 1, 5, none⟩ (.bool false)).setCell ⟨w.heap.size + 1, 6, none⟩ (.bool true)).setCell ⟨w.heap.size + 1, 7, none⟩ (.string ⟨#[]⟩)).heap.size := by simp only [World.size_setCell]; assumption
      have hlo2 : LO.length ≤ 140200 := by omega
      clear H HZ
      go_wp2_with (first
        | (at_builtin; refine wpList_append_slM (enc := encLet) rfl (.tmp 60) (.tmp 61) 49 rfl w0.heap.size 94 i0 (.agg #[.string ⟨#[]⟩, .string ⟨#[]⟩]) 2 32 Try.underlying49 HI.out.1 HI.out.2.1 HI.out.2.2.1 HI.out.2.2.2 rfl (by decide) (.slice AO LO.length cO) LO.length (LO.flatMap encLet) rfl HOW.out encLet_len A4 L L.length c4 rfl (by first | rfl | simp [Act.eval]) HLK.out.1.sl (encLet_one _) (by unfold maxLen; omega) (by omega) hBS ?_; intro v8 w8 ho8 hg8 _; have hn8 := SP.grownO H3.out HOW.out hg8 (by intro b hb; simp at hb; rcases hb with rfl | rfl | rfl | rfl <;> simp <;> omega) (by omega) (List.forall_mem_cons.2 ⟨VK.l, List.forall_mem_cons.2 ⟨WK.l, List.forall_mem_cons.2 ⟨NK.l, fun P hP => absurd hP (by simp)⟩⟩⟩); obtain ⟨M, hM, hAM, hoM⟩ : ∃ M : List Let, M.length = LO.length + L.length ∧ AllL M ∧ OwnL w8 w0.heap.size v8 M := ⟨LO ++ L, by simp, HLO.out.app HLK.out.2.1, ownL_appL ho8⟩; obtain ⟨A8, c8, rfl, _, _, _⟩ := hoM.sl; have H := Lib.hid (SP.add hn8 (fun W => OwnL W w0.heap.size (.slice A8 M.length c8) M) OwnL.c hoM); have HAM := Lib.hid hAM; have HM := Lib.hid hM; have hBS8 : w0.heap.size ≤ w8.heap.size := Nat.le_trans hBS hg8.size; clear hn8 ho8 hg8 hM hAM hoM)
        | fail)
      have hM9 := HM.out
      go_roundg ((a).size + 0)
      case measure => omega
      case rel => exact ⟨a, A8, M, c8, now, A, l, c, false, false, 0, none, [], 0, none, [], 0, false, true, ⟨#[]⟩, rfl, rfl, by first | rfl | simp, by omega, Nat.zero_le _, by omega, HAM, hBS8, H⟩
end Go.Proofs.Ytpjkcmmmpgncmaa
