import Derived.Test.YtfmhhckkpenldaaGreatDoorL6L
import Derived.Test.YtfmhhckkpenldaaGreatDoorM26
/- The reference's l6All: letters are answered, one behind the other (bounds). -/
namespace Go.Proofs.YtfmhhckkpenldaaGreatDoor
open Go.RowKit
/-- letters, not too many -/
def LN (W : World) (A : Option Addr) (L : List Let) (n : Nat) : Prop := SlK encLet 2 31 W A L ∧ AllL L ∧ L.length ≤ n
theorem LN.c {A : Option Addr} {L : List Let} {n : Nat} : KpC (fun W => LN W A L n) := fun _ _ hk h => ⟨h.1.kp hk (by decide), h.2⟩
theorem OwnL.c {B : Nat} {v : Value} {L : List Let} : KpC (fun W => OwnL W B v L) := fun _ _ hk h => own_kp h hk (by decide)
theorem LN.of {W : World} {B c n : Nat} {A : Option Addr} {L : List Let} (h : OwnL W B (.slice A L.length c) L) (hf : AllL L) (hl : L.length ≤ n) : LN W A L n := ⟨SlK.of_own encLet_len h, hf, hl⟩
theorem ownL_appL {w : World} {B : Nat} {v : Value} {L M : List Let} (ho : w.ownsRow B 31 2 v (L.length + M.length) (L.flatMap encLet ++ M.flatMap encLet)) : OwnL w B v (L ++ M) := by
  unfold OwnL
  rw [List.length_append, List.flatMap_append]
  exact ho
theorem ownL_nil (W : World) (a B : Nat) (ha : a = W.heap.size) (hB : B ≤ W.heap.size) : OwnL (W.alloc (.cells #[] 31)) B (.slice (some ⟨a, 0, none⟩) ([] : List Let).length 0) [] := by
  subst ha
  exact OwnL.leB (own_of_blk (base := W.heap.size) (n := 0) (k := 2) (xs := []) (Blk.new W _ #[]) (Nat.le_refl _) (Nat.zero_le _) rfl rfl) hB
/-- how l6All leaves -/
def AllP (w : World) (n : Nat) (e : Ending) (w' : World) : Prop :=
  ∃ (now : Int) (A : Option Addr) (l : List Ver) (c : Nat) (on bad : Bool) (t : Int) (A2 : Option Addr) (ws : List Wri) (c2 : Nat) (A3 : Option Addr) (ns : List Nm) (c3 : Nat) (skip gone : Bool) (inb : ByteArray) (A4 : Option Addr) (L : List Let) (c4 : Nat),
    e = .returned (.tuple #[.agg #[.int .i64 now, .slice A l.length c], .agg #[.bool on, .bool bad, .int .i64 t, .slice A2 ws.length c2, .slice A3 ns.length c3, .bool skip, .bool gone, .string inb], .slice A4 L.length c4]) ∧ VK w' now A l ∧ WK w' A2 ws ∧ NK w' A3 ns ∧ LN w' A4 L n ∧ L.length ≤ c4 ∧ c4 ≤ maxLen ∧ Below w.heap.size w w'
set_option maxRecDepth 100000 in
set_option maxHeartbeats 16000000 in
theorem l6All_any (now0 : Int) (A0 : Option Addr) (l0 : List Ver) (c0 : Nat) (on0 bad0 : Bool) (t0 : Int) (A20 : Option Addr) (ws0 : List Wri) (c20 : Nat) (A30 : Option Addr) (ns0 : List Nm) (c30 : Nat) (skip0 gone0 : Bool) (inb0 : ByteArray) (AX : Option Addr) (xs : List Let) (cx : Nat) (w : World) (hV : VK w now0 A0 l0) (hW : WK w A20 ws0) (hN : NK w A30 ns0) (hX : Sl encLet 2 w AX xs) (hA : AllL xs) (hl : xs.length ≤ 20) :
    Calls Tryz.prog 13 #[.agg #[.int .i64 now0, .slice A0 l0.length c0], .agg #[.bool on0, .bool bad0, .int .i64 t0, .slice A20 ws0.length c20, .slice A30 ns0.length c30, .bool skip0, .bool gone0, .string inb0], .slice AX xs.length cx] w (AllP w 2000) := by
  have HX := Lib.hid hX
  have HA := Lib.hid hA
  have hbE := allocAll_below w [(36, #[.int .i64 now0, .slice A0 l0.length c0]), (44, #[.bool on0, .bool bad0, .int .i64 t0, .slice A20 ws0.length c20, .slice A30 ns0.length c30, .bool skip0, .bool gone0, .string inb0]), (36, #[.int .i64 0, .slice none 0 0]), (44, #[.bool false, .bool false, .int .i64 0, .slice none 0 0, .slice none 0 0, .bool false, .bool false, .string ⟨#[]⟩])]
  have H : Hid (SP w [(w.heap.size, 36, #[.int .i64 now0, .slice A0 l0.length c0]), (w.heap.size + 1, 44, #[.bool on0, .bool bad0, .int .i64 t0, .slice A20 ws0.length c20, .slice A30 ns0.length c30, .bool skip0, .bool gone0, .string inb0]), (w.heap.size + 1 + 1, 36, #[.int .i64 0, .slice none 0 0]), (w.heap.size + 1 + 1 + 1, 44, #[.bool false, .bool false, .int .i64 0, .slice none 0 0, .slice none 0 0, .bool false, .bool false, .string ⟨#[]⟩])] [fun W => VK W now0 A0 l0, fun W => WK W A20 ws0, fun W => NK W A30 ns0] ((allocAll w [(36, #[.int .i64 now0, .slice A0 l0.length c0]), (44, #[.bool on0, .bool bad0, .int .i64 t0, .slice A20 ws0.length c20, .slice A30 ns0.length c30, .bool skip0, .bool gone0, .string inb0]), (36, #[.int .i64 0, .slice none 0 0]), (44, #[.bool false, .bool false, .int .i64 0, .slice none 0 0, .slice none 0 0, .bool false, .bool false, .string ⟨#[]⟩])]))) := Lib.hid (SP.add (SP.add (SP.add (SP.start w [(36, #[.int .i64 now0, .slice A0 l0.length c0]), (44, #[.bool on0, .bool bad0, .int .i64 t0, .slice A20 ws0.length c20, .slice A30 ns0.length c30, .bool skip0, .bool gone0, .string inb0]), (36, #[.int .i64 0, .slice none 0 0]), (44, #[.bool false, .bool false, .int .i64 0, .slice none 0 0, .slice none 0 0, .bool false, .bool false, .string ⟨#[]⟩])]) _ VK.c (VK.c _ _ (Kp.below hbE) hV)) _ WK.c (WK.c _ _ (Kp.below hbE) hW)) _ NK.c (NK.c _ _ (Kp.below hbE) hN))
  clear hbE
  go_enter Tryz.func13, Tryz.ntmps13
  clear hV hW hN hX hA
  go_upto_region 1 with fail
  change Code.wp _ _ _ _ (allocAll w [(36, #[.int .i64 now0, .slice A0 l0.length c0]), (44, #[.bool on0, .bool bad0, .int .i64 t0, .slice A20 ws0.length c20, .slice A30 ns0.length c30, .bool skip0, .bool gone0, .string inb0]), (36, #[.int .i64 0, .slice none 0 0]), (44, #[.bool false, .bool false, .int .i64 0, .slice none 0 0, .slice none 0 0, .bool false, .bool false, .string ⟨#[]⟩])])
  generalize (allocAll w [(36, #[.int .i64 now0, .slice A0 l0.length c0]), (44, #[.bool on0, .bool bad0, .int .i64 t0, .slice A20 ws0.length c20, .slice A30 ns0.length c30, .bool skip0, .bool gone0, .string inb0]), (36, #[.int .i64 0, .slice none 0 0]), (44, #[.bool false, .bool false, .int .i64 0, .slice none 0 0, .slice none 0 0, .bool false, .bool false, .string ⟨#[]⟩])]) = w0 at *
  have hb3 : w.heap.size + 1 + 1 + 1 < w0.heap.size := (H.out.blk 3 rfl).lt
  have hO := ownL_nil w0 w0.heap.size w0.heap.size rfl (Nat.le_refl _)
  have HS := Lib.hid (SP.add (H.out.kept (kFF w0 (.cells #[] 31))) (fun W => OwnL W w0.heap.size (.slice (some ⟨w0.heap.size, 0, none⟩) ([] : List Let).length 0) []) OwnL.c hO)
  clear H hO
  go_wp2
  go_loopw [9, 10, 11] (fun v9 i v11 wr => ∃ (k : Nat) (AO : Option Addr) (LO : List Let) (cO : Nat) (now : Int) (A : Option Addr) (l : List Ver) (c : Nat) (on bad : Bool) (t : Int) (A2 : Option Addr) (ws : List Wri) (c2 : Nat) (A3 : Option Addr) (ns : List Nm) (c3 : Nat) (skip gone : Bool) (inb : ByteArray), k ≤ xs.length ∧ i = .int .i64 k ∧ v9 = .slice AO LO.length cO ∧ Hid (LO.length ≤ 100 * k ∧ AllL LO) ∧ w0.heap.size ≤ wr.heap.size ∧ Hid (SP w [(w.heap.size, 36, #[.int .i64 now, .slice A l.length c]), (w.heap.size + 1, 44, #[.bool on, .bool bad, .int .i64 t, .slice A2 ws.length c2, .slice A3 ns.length c3, .bool skip, .bool gone, .string inb]), (w.heap.size + 1 + 1, 36, #[.int .i64 0, .slice none 0 0]), (w.heap.size + 1 + 1 + 1, 44, #[.bool false, .bool false, .int .i64 0, .slice none 0 0, .slice none 0 0, .bool false, .bool false, .string ⟨#[]⟩])] [fun W => VK W now A l, fun W => WK W A2 ws, fun W => NK W A3 ns, fun W => OwnL W w0.heap.size (.slice AO LO.length cO) LO] wr)) (fun _ i _ _ => xs.length - (intOf i).toNat)
  case atStart => exact ⟨0, _, [], 0, now0, A0, l0, c0, on0, bad0, t0, A20, ws0, c20, A30, ns0, c30, skip0, gone0, inb0, Nat.zero_le _, rfl, rfl, Lib.hid ⟨Nat.le_refl _, AllL.nil⟩, by simp, HS⟩
  case round =>
    clear HS
    obtain ⟨k, AO, LO, cO, now, A, l, c, on, bad, t, A2, ws, c2, A3, ns, c3, skip, gone, inb, hk, rfl, rfl, HLO, hwr, HQ⟩ := hrel
    have H := Lib.hid HQ.out
    clear HQ
    by_cases hlt : k < xs.length
    case pos =>
      have hki : (k : Int) < (xs.length : Int) := by omega
      have hki0 : (0 : Int) ≤ (k : Int) := by omega
      go_upto_region 6 with fail
      replace H := Lib.hid (H.out.kept (kFF wr (.cells #[] 31)))
      replace hwr : w0.heap.size ≤ (wr.alloc (.cells #[] 31)).heap.size := by rw [World.size_alloc]; omega
      generalize wr.alloc (.cells #[] 31) = w1 at *
      have H : Hid (SP w [(w.heap.size, 36, #[.int .i64 now, .slice A l.length c]), (w.heap.size + 1, 44, #[.bool on, .bool bad, .int .i64 t, .slice A2 ws.length c2, .slice A3 ns.length c3, .bool skip, .bool gone, .string inb]), (w.heap.size + 1 + 1, 36, #[.int .i64 0, .slice none 0 0]), (w.heap.size + 1 + 1 + 1, 44, #[.bool false, .bool false, .int .i64 0, .slice none 0 0, .slice none 0 0, .bool false, .bool false, .string ⟨#[]⟩])] [fun W => VK W now A l, fun W => WK W A2 ws, fun W => NK W A3 ns, fun W => OwnL W w0.heap.size (.slice AO LO.length cO) LO] w1) := Lib.hid H.out
      go_cut [11] (fun v11 wx => ∃ (nowu : Int) (Au : Option Addr) (lu : List Ver) (cu : Nat) (onu badu : Bool) (tu : Int) (A2u : Option Addr) (wsu : List Wri) (c2u : Nat) (A3u : Option Addr) (nsu : List Nm) (c3u : Nat) (skipu goneu : Bool) (inbu : ByteArray) (A4 : Option Addr) (L : List Let) (c4 : Nat), v11 = .slice A4 L.length c4 ∧ w0.heap.size ≤ wx.heap.size ∧ Hid (SP w [(w.heap.size, 36, #[.int .i64 nowu, .slice Au lu.length cu]), (w.heap.size + 1, 44, #[.bool onu, .bool badu, .int .i64 tu, .slice A2u wsu.length c2u, .slice A3u nsu.length c3u, .bool skipu, .bool goneu, .string inbu]), (w.heap.size + 1 + 1, 36, #[.int .i64 0, .slice none 0 0]), (w.heap.size + 1 + 1 + 1, 44, #[.bool false, .bool false, .int .i64 0, .slice none 0 0, .slice none 0 0, .bool false, .bool false, .string ⟨#[]⟩])] [fun W => VK W nowu Au lu, fun W => WK W A2u wsu, fun W => NK W A3u nsu, fun W => OwnL W w0.heap.size (.slice AO LO.length cO) LO, fun W => LK W A4 L] wx))
      case first =>
        obtain ⟨b, o, rfl, hbl, e0, e1⟩ := Sl.at2 (HX.out.below H.out.below) hlt
        have HBD := Lib.hid (show xs[k].2.size ≤ 1048576 from Nat.le_trans (HA.out xs[k] (List.getElem_mem hlt)).2 (by decide))
        generalize xs[k] = x at *
        obtain ⟨sg, bd⟩ := x
        simp only at e0 e1 HBD
        obtain ⟨x0_0, x0_1⟩ := Blk.q2 (H.out.blk 0 rfl)
        obtain ⟨x1_0, x1_1, x1_2, x1_3, x1_4, x1_5, x1_6, x1_7⟩ := Blk.q8 (H.out.blk 1 rfl)
        have l0 := (H.out.blk 0 rfl).lt
        have l1 := (H.out.blk 1 rfl).lt
        go_wp2_with fail
        replace H := Lib.hid (H.out.kept (kDB w1))
        go_region_with (go_at_call 29; refine (l6Letter_any A l c now on bad t A2 ws c2 A3 ns c3 skip gone inb (sg, bd) _ (H.out.get 0 rfl) (H.out.get 1 rfl) (H.out.get 2 rfl) HBD.out).mono ?_; rintro e wz ⟨nowu, Au, lu, cu, onu, badu, tu, A2u, wsu, c2u, A3u, nsu, c3u, skipu, goneu, inbu, A4, L, c4, rfl, hV2, hW2, hN2, hL2, hbz, _⟩; have HBS := Lib.hid (show w0.heap.size ≤ wz.heap.size from Nat.le_trans hwr hbz.size); replace H := Lib.hid (SP.add (SP.add (SP.add (SP.add (H.out.kept hbz) (fun W => VK W nowu Au lu) VK.c hV2) (fun W => WK W A2u wsu) WK.c hW2) (fun W => NK W A3u nsu) NK.c hN2) (fun W => LK W A4 L) LK.c hL2); have hkk : wz.cell? ⟨w.heap.size, 0, none⟩ = some (.int .i64 now) ∧ wz.cell? ⟨w.heap.size, 1, none⟩ = some (.slice A l.length c) ∧ wz.cell? ⟨w.heap.size + 1, 0, none⟩ = some (.bool on) ∧ wz.cell? ⟨w.heap.size + 1, 1, none⟩ = some (.bool bad) ∧ wz.cell? ⟨w.heap.size + 1, 2, none⟩ = some (.int .i64 t) ∧ wz.cell? ⟨w.heap.size + 1, 3, none⟩ = some (.slice A2 ws.length c2) ∧ wz.cell? ⟨w.heap.size + 1, 4, none⟩ = some (.slice A3 ns.length c3) ∧ wz.cell? ⟨w.heap.size + 1, 5, none⟩ = some (.bool skip) ∧ wz.cell? ⟨w.heap.size + 1, 6, none⟩ = some (.bool gone) ∧ wz.cell? ⟨w.heap.size + 1, 7, none⟩ = some (.string inb) := ⟨(H.out.blk 0 rfl).cell 0, (H.out.blk 0 rfl).cell 1, (H.out.blk 1 rfl).cell 0, (H.out.blk 1 rfl).cell 1, (H.out.blk 1 rfl).cell 2, (H.out.blk 1 rfl).cell 3, (H.out.blk 1 rfl).cell 4, (H.out.blk 1 rfl).cell 5, (H.out.blk 1 rfl).cell 6, (H.out.blk 1 rfl).cell 7⟩; have hf0 := fun j => (H.out.blk 0 rfl).frozen j; have hf1 := fun j => (H.out.blk 1 rfl).frozen j; have hl0 := (H.out.blk 0 rfl).lt; have hl1 := (H.out.blk 1 rfl).lt; clear hbz hV2 hW2 hN2 hL2)
        all_goals
          have HZ := Lib.hid (SP.put8 (SP.put2 (H.out) 0 (.int .i64 nowu) (.slice Au lu.length cu) rfl (by decide)) 1 (.bool onu) (.bool badu) (.int .i64 tu) (.slice A2u wsu.length c2u) (.slice A3u nsu.length c3u) (.bool skipu) (.bool goneu) (.string inbu) rfl (by decide))
          try go_wp2_with fail
          go_meet
          exact ⟨nowu, Au, lu, cu, onu, badu, tu, A2u, wsu, c2u, A3u, nsu, c3u, skipu, goneu, inbu, A4, L, c4, rfl, by simp only [World.size_setCell]; exact HBS.out, Lib.hid ⟨HZ.out.1, List.forall_mem_cons.2 ⟨⟨VK.c, HZ.out.get 4 rfl⟩, List.forall_mem_cons.2 ⟨⟨WK.c, HZ.out.get 5 rfl⟩, List.forall_mem_cons.2 ⟨⟨NK.c, HZ.out.get 6 rfl⟩, List.forall_mem_cons.2 ⟨⟨OwnL.c, HZ.out.get 3 rfl⟩, List.forall_mem_cons.2 ⟨⟨LK.c, HZ.out.get 7 rfl⟩, fun P hP => absurd hP (by simp)⟩⟩⟩⟩⟩⟩⟩
      case rest =>
        obtain ⟨nowu, Au, lu, cu, onu, badu, tu, A2u, wsu, c2u, A3u, nsu, c3u, skipu, goneu, inbu, A4, L, c4, rfl, hBS, HQ⟩ := hcut
        clear H
        have H := Lib.hid HQ.out
        clear HQ
        have H : Hid (SP w [(w.heap.size, 36, #[.int .i64 nowu, .slice Au lu.length cu]), (w.heap.size + 1, 44, #[.bool onu, .bool badu, .int .i64 tu, .slice A2u wsu.length c2u, .slice A3u nsu.length c3u, .bool skipu, .bool goneu, .string inbu]), (w.heap.size + 1 + 1, 36, #[.int .i64 0, .slice none 0 0]), (w.heap.size + 1 + 1 + 1, 44, #[.bool false, .bool false, .int .i64 0, .slice none 0 0, .slice none 0 0, .bool false, .bool false, .string ⟨#[]⟩])] [fun W => VK W nowu Au lu, fun W => WK W A2u wsu, fun W => NK W A3u nsu, fun W => OwnL W w0.heap.size (.slice AO LO.length cO) LO, fun W => LK W A4 L] wc) := Lib.hid H.out
        have hL4 : L.length ≤ 100 := (H.out.get 4 rfl).2.2
        have hLO : LO.length ≤ 2000 := by have := HLO.out.1; omega
        obtain ⟨i0, hi0, hz0, hz1, hz2⟩ := info_parts infoLet
        have HI := Lib.hid (⟨hi0, hz0, hz1, hz2⟩ : _ ∧ _ ∧ _ ∧ _)
        clear hi0 hz0 hz1 hz2
        have HOW := Lib.hid (H.out.get 3 rfl)
        have HLK := Lib.hid (H.out.get 4 rfl)
        have H3 : Hid (SP w [(w.heap.size, 36, #[.int .i64 nowu, .slice Au lu.length cu]), (w.heap.size + 1, 44, #[.bool onu, .bool badu, .int .i64 tu, .slice A2u wsu.length c2u, .slice A3u nsu.length c3u, .bool skipu, .bool goneu, .string inbu]), (w.heap.size + 1 + 1, 36, #[.int .i64 0, .slice none 0 0]), (w.heap.size + 1 + 1 + 1, 44, #[.bool false, .bool false, .int .i64 0, .slice none 0 0, .slice none 0 0, .bool false, .bool false, .string ⟨#[]⟩])] [fun W => VK W nowu Au lu, fun W => WK W A2u wsu, fun W => NK W A3u nsu] wc) := Lib.hid ⟨H.out.1, List.forall_mem_cons.2 ⟨⟨VK.c, H.out.get 0 rfl⟩, List.forall_mem_cons.2 ⟨⟨WK.c, H.out.get 1 rfl⟩, List.forall_mem_cons.2 ⟨⟨NK.c, H.out.get 2 rfl⟩, fun P hP => absurd hP (by simp)⟩⟩⟩⟩
        clear H
        go_wp2_with (at_builtin; refine wpList_append_slM (enc := encLet) rfl (.tmp 31) (.tmp 32) 23 rfl w0.heap.size 31 i0 (.agg #[.string ⟨#[]⟩, .string ⟨#[]⟩]) 2 32 Tryz.underlying23 HI.out.1 HI.out.2.1 HI.out.2.2.1 HI.out.2.2.2 rfl (by decide) (.slice AO LO.length cO) LO.length (LO.flatMap encLet) rfl HOW.out encLet_len A4 L L.length c4 rfl (by first | rfl | simp [Act.eval]) HLK.out.1.sl (encLet_one _) (by unfold maxLen; omega) (by omega) hBS ?_; intro v8 w8 ho8 hg8 _; have hn8 := SP.grownO H3.out HOW.out hg8 (by intro b hb; simp at hb; rcases hb with rfl | rfl | rfl | rfl <;> simp <;> omega) (by omega) (List.forall_mem_cons.2 ⟨VK.l, List.forall_mem_cons.2 ⟨WK.l, List.forall_mem_cons.2 ⟨NK.l, fun P hP => absurd hP (by simp)⟩⟩⟩); obtain ⟨M, hM, hoM⟩ : ∃ M : List Let, M.length ≤ 100 * (k + 1) ∧ AllL M ∧ OwnL w8 w0.heap.size v8 M := ⟨LO ++ L, by have := HLO.out.1; simp; omega, HLO.out.2.app HLK.out.2.1, ownL_appL ho8⟩; obtain ⟨hAM, hoM⟩ := hoM; obtain ⟨A8, c8, rfl, _, _, _⟩ := hoM.sl; have H := Lib.hid (SP.add hn8 (fun W => OwnL W w0.heap.size (.slice A8 M.length c8) M) OwnL.c hoM); have HLM := Lib.hid (⟨hM, hAM⟩ : _ ∧ _); have hBS8 : w0.heap.size ≤ w8.heap.size := Nat.le_trans hBS hg8.size; clear hn8 ho8 hg8 hM hAM hoM)
        go_roundw
        case rel => first | exact ⟨k + 1, A8, M, c8, nowu, Au, lu, cu, onu, badu, tu, A2u, wsu, c2u, A3u, nsu, c3u, skipu, goneu, inbu, by omega, by go_num, rfl, HLM, hBS8, H⟩ | ((repeat apply Exists.intro); exact ⟨⟨k + 1, A8, M, c8, nowu, Au, lu, cu, onu, badu, tu, A2u, wsu, c2u, A3u, nsu, c3u, skipu, goneu, inbu, by omega, by go_num, rfl, HLM, hBS8, H⟩, rfl⟩)
        case measure => simp [intOf]; omega
    obtain rfl : k = xs.length := by omega
    obtain ⟨x2_0, x2_1⟩ := Blk.q2 (H.out.blk 2 rfl)
    obtain ⟨x3_0, x3_1, x3_2, x3_3, x3_4, x3_5, x3_6, x3_7⟩ := Blk.q8 (H.out.blk 3 rfl)
    obtain ⟨z2_0, z2_1⟩ := Blk.z2 (H.out.blk 2 rfl)
    obtain ⟨z3_0, z3_1, z3_2, z3_3, z3_4, z3_5, z3_6, z3_7⟩ := Blk.z8 (H.out.blk 3 rfl)
    have l0 := (H.out.blk 0 rfl).lt
    have l1 := (H.out.blk 1 rfl).lt
    have l2 := (H.out.blk 2 rfl).lt
    have l3 := (H.out.blk 3 rfl).lt
    have hB0_0 : ∀ W : World, Blk W (w.heap.size) 36 #[.int .i64 now, .slice A l.length c] → W.cell? ⟨w.heap.size, 0, none⟩ = some (.int .i64 now) := fun W h => h.cell 0
    have hB0_1 : ∀ W : World, Blk W (w.heap.size) 36 #[.int .i64 now, .slice A l.length c] → W.cell? ⟨w.heap.size, 1, none⟩ = some (.slice A l.length c) := fun W h => h.cell 1
    have hB1_0 : ∀ W : World, Blk W (w.heap.size + 1) 44 #[.bool on, .bool bad, .int .i64 t, .slice A2 ws.length c2, .slice A3 ns.length c3, .bool skip, .bool gone, .string inb] → W.cell? ⟨w.heap.size + 1, 0, none⟩ = some (.bool on) := fun W h => h.cell 0
    have hB1_1 : ∀ W : World, Blk W (w.heap.size + 1) 44 #[.bool on, .bool bad, .int .i64 t, .slice A2 ws.length c2, .slice A3 ns.length c3, .bool skip, .bool gone, .string inb] → W.cell? ⟨w.heap.size + 1, 1, none⟩ = some (.bool bad) := fun W h => h.cell 1
    have hB1_2 : ∀ W : World, Blk W (w.heap.size + 1) 44 #[.bool on, .bool bad, .int .i64 t, .slice A2 ws.length c2, .slice A3 ns.length c3, .bool skip, .bool gone, .string inb] → W.cell? ⟨w.heap.size + 1, 2, none⟩ = some (.int .i64 t) := fun W h => h.cell 2
    have hB1_3 : ∀ W : World, Blk W (w.heap.size + 1) 44 #[.bool on, .bool bad, .int .i64 t, .slice A2 ws.length c2, .slice A3 ns.length c3, .bool skip, .bool gone, .string inb] → W.cell? ⟨w.heap.size + 1, 3, none⟩ = some (.slice A2 ws.length c2) := fun W h => h.cell 3
    have hB1_4 : ∀ W : World, Blk W (w.heap.size + 1) 44 #[.bool on, .bool bad, .int .i64 t, .slice A2 ws.length c2, .slice A3 ns.length c3, .bool skip, .bool gone, .string inb] → W.cell? ⟨w.heap.size + 1, 4, none⟩ = some (.slice A3 ns.length c3) := fun W h => h.cell 4
    have hB1_5 : ∀ W : World, Blk W (w.heap.size + 1) 44 #[.bool on, .bool bad, .int .i64 t, .slice A2 ws.length c2, .slice A3 ns.length c3, .bool skip, .bool gone, .string inb] → W.cell? ⟨w.heap.size + 1, 5, none⟩ = some (.bool skip) := fun W h => h.cell 5
    have hB1_6 : ∀ W : World, Blk W (w.heap.size + 1) 44 #[.bool on, .bool bad, .int .i64 t, .slice A2 ws.length c2, .slice A3 ns.length c3, .bool skip, .bool gone, .string inb] → W.cell? ⟨w.heap.size + 1, 6, none⟩ = some (.bool gone) := fun W h => h.cell 6
    have hB1_7 : ∀ W : World, Blk W (w.heap.size + 1) 44 #[.bool on, .bool bad, .int .i64 t, .slice A2 ws.length c2, .slice A3 ns.length c3, .bool skip, .bool gone, .string inb] → W.cell? ⟨w.heap.size + 1, 7, none⟩ = some (.string inb) := fun W h => h.cell 7
    have hb0 : Blk wr (w.heap.size) 36 #[.int .i64 now, .slice A l.length c] := H.out.blk 0 rfl
    have hb1 : Blk wr (w.heap.size + 1) 44 #[.bool on, .bool bad, .int .i64 t, .slice A2 ws.length c2, .slice A3 ns.length c3, .bool skip, .bool gone, .string inb] := H.out.blk 1 rfl
    go_wp2_with fail
    go_region_held3 (fun W => Blk W (w.heap.size) 36 #[.int .i64 now, .slice A l.length c] ∧ Blk W (w.heap.size + 1) 44 #[.bool on, .bool bad, .int .i64 t, .slice A2 ws.length c2, .slice A3 ns.length c3, .bool skip, .bool gone, .string inb])
      ((refine ⟨?_, ?_⟩ <;> (repeat (first | (with_reducible assumption) | (with_reducible refine Blk.drew ?_) | (with_reducible refine Blk.alloc ?_ _) | (with_reducible refine Blk.far ?_ (by simp <;> omega) _)))))
      (fail)
    all_goals
      obtain ⟨hc1, hc2⟩ : LO.length ≤ cO ∧ cO ≤ maxLen := by
        obtain ⟨A9, c9, e9, h1, h2, _⟩ := (H.out.get 3 rfl).sl
        injection e9 with _ _ e9
        subst e9
        exact ⟨h1, h2⟩
      have HZ := Lib.hid (SP.kept (SP.put8 (SP.put2 (H.out) 2 (.int .i64 now) (.slice A l.length c) rfl (by decide)) 3 (.bool on) (.bool bad) (.int .i64 t) (.slice A2 ws.length c2) (.slice A3 ns.length c3) (.bool skip) (.bool gone) (.string inb) rfl (by decide)) (kDB _))
      clear hB0_0 hB0_1 hB1_0 hB1_1 hB1_2 hB1_3 hB1_4 hB1_5 hB1_6 hB1_7
      go_wp2
      refine bodyPost_ret (v := .tuple #[.agg #[.int .i64 now, .slice A l.length c], .agg #[.bool on, .bool bad, .int .i64 t, .slice A2 ws.length c2, .slice A3 ns.length c3, .bool skip, .bool gone, .string inb], .slice AO LO.length cO]) ?_ rfl ⟨now, A, l, c, on, bad, t, A2, ws, c2, A3, ns, c3, skip, gone, inb, AO, LO, cO, rfl, HZ.out.get 0 rfl, HZ.out.get 1 rfl, HZ.out.get 2 rfl, LN.of (HZ.out.get 3 rfl) HLO.out.2 (by have := HLO.out.1; omega), hc1, hc2, HZ.out.below⟩
      simp [results, Tryz.results13, go_sem, x2_0, x2_1, x3_0, x3_1, x3_2, x3_3, x3_4, x3_5, x3_6, x3_7]
end Go.Proofs.YtfmhhckkpenldaaGreatDoor
