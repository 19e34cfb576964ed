import Derived.Test.YtpjkcmmmpgncmaaM29
import Derived.Test.YtpjkcmmmpgncmaaL6W
import Derived.Test.YtpjkcmmmpgncmaaM25
import Derived.Test.YtpjkcmmmpgncmaaL2Some
import Derived.Test.YtpjkcmmmpgncmaaM32
import Derived.Test.YtpjkcmmmpgncmaaM31
/- The reference's l6List: letters to one who talks are drawn. -/
namespace Go.Proofs.Ytpjkcmmmpgncmaa
open Go.RowKit
/-- how l6List leaves -/
def ListD (u0 w : World) (RA : Option Addr) (rb : List UInt8) (rc g p n : Nat) (e : Ending) (w' : World) : Prop :=
  ∃ (A4 : Option Addr) (L : List Let) (c4 q : Nat), e = .returned (.slice A4 L.length c4) ∧ LN w' A4 L 20 ∧ L.length ≤ c4 ∧ c4 ≤ maxLen ∧ q ≤ p + n ∧ Rd u0 w' RA rb rc g q ∧ w.grownBy w' (some g)
set_option maxRecDepth 100000 in
set_option maxHeartbeats 16000000 in
theorem l6List_any (u0 : World) (RA : Option Addr) (rb : List UInt8) (rc g p : Nat) (now0 : Int) (A0 : Option Addr) (l0 : List Ver) (c0 : Nat) (on0 bad0 : Bool) (t0 : Int) (A20 : Option Addr) (ws0 : List Wri) (c20 : Nat) (A30 : Option Addr) (ns0 : List Nm) (c30 : Nat) (skip0 gone0 : Bool) (inb0 : ByteArray) (n : Nat) (w : World) (hR : Rd u0 w RA rb rc g p) (hp : p < 600000) (hV : VK w now0 A0 l0) (hW : WK w A20 ws0) (hN : NK w A30 ns0) (hn : n ≤ 8) :
    Calls Try.prog 94 #[.pointer (some ⟨g, 0, none⟩), .agg #[.int .i64 now0, .slice A0 l0.length c0], .agg #[.bool on0, .bool bad0, .int .i64 t0, .slice A20 ws0.length c20, .slice A30 ns0.length c30, .bool skip0, .bool gone0, .string inb0], .int .i64 n] w (ListD u0 w RA rb rc g p 600) := by
  have hbE := allocAll_below w [(32, #[.int .i64 now0, .slice A0 l0.length c0]), (81, #[.bool on0, .bool bad0, .int .i64 t0, .slice A20 ws0.length c20, .slice A30 ns0.length c30, .bool skip0, .bool gone0, .string inb0])]
  have H : Hid (SD u0 RA rb rc g p w [(w.heap.size, 32, #[.int .i64 now0, .slice A0 l0.length c0]), (w.heap.size + 1, 81, #[.bool on0, .bool bad0, .int .i64 t0, .slice A20 ws0.length c20, .slice A30 ns0.length c30, .bool skip0, .bool gone0, .string inb0])] [fun W => VK W now0 A0 l0, fun W => WK W A20 ws0, fun W => NK W A30 ns0] ((allocAll w [(32, #[.int .i64 now0, .slice A0 l0.length c0]), (81, #[.bool on0, .bool bad0, .int .i64 t0, .slice A20 ws0.length c20, .slice A30 ns0.length c30, .bool skip0, .bool gone0, .string inb0])]))) := Lib.hid (SD.add (SD.add (SD.add (SD.start hR [(32, #[.int .i64 now0, .slice A0 l0.length c0]), (81, #[.bool on0, .bool bad0, .int .i64 t0, .slice A20 ws0.length c20, .slice A30 ns0.length c30, .bool skip0, .bool gone0, .string inb0])]) _ VK.c (VK.c _ _ (Kp.below hbE) hV)) _ WK.c (WK.c _ _ (Kp.below hbE) hW)) _ NK.c (NK.c _ _ (Kp.below hbE) hN))
  clear hbE
  go_enter Try.func94, Try.ntmps94
  clear hV hW hN hR
  go_upto_region 1 with fail
  change Code.wp _ _ _ _ (allocAll w [(32, #[.int .i64 now0, .slice A0 l0.length c0]), (81, #[.bool on0, .bool bad0, .int .i64 t0, .slice A20 ws0.length c20, .slice A30 ns0.length c30, .bool skip0, .bool gone0, .string inb0])])
  generalize (allocAll w [(32, #[.int .i64 now0, .slice A0 l0.length c0]), (81, #[.bool on0, .bool bad0, .int .i64 t0, .slice A20 ws0.length c20, .slice A30 ns0.length c30, .bool skip0, .bool gone0, .string inb0])]) = v0 at *
  have hb1 : w.heap.size + 1 < v0.heap.size := (H.out.blk 1 rfl).lt
  have hgw : g < w.heap.size := H.out.2.2.2.2
  have hO := ownL_nil v0 v0.heap.size v0.heap.size rfl (Nat.le_refl _)
  have HS := Lib.hid (SD.add (H.out.kept (kFF v0 (.cells #[] 94))) (fun W => OwnL W v0.heap.size (.slice (some ⟨v0.heap.size, 0, none⟩) ([] : List Let).length 0) []) OwnL.c hO)
  clear H hO
  go_wp2
  go_loopw [9, 10, 11] (fun v9 i v11 wr => ∃ (k q : Nat) (AO : Option Addr) (LO : List Let) (cO : Nat) (now : Int) (A : Option Addr) (l : List Ver) (c : Nat) (on bad : Bool) (t : Int) (A2 : Option Addr) (ws : List Wri) (c2 : Nat) (A3 : Option Addr) (ns : List Nm) (c3 : Nat) (skip gone : Bool) (inb : ByteArray), k ≤ n ∧ q ≤ p + 60 * k ∧ i = .int .i64 k ∧ v9 = .slice AO LO.length cO ∧ Hid (LO.length = k ∧ AllL LO) ∧ v0.heap.size ≤ wr.heap.size ∧ Hid (SD u0 RA rb rc g q w [(w.heap.size, 32, #[.int .i64 now, .slice A l.length c]), (w.heap.size + 1, 81, #[.bool on, .bool bad, .int .i64 t, .slice A2 ws.length c2, .slice A3 ns.length c3, .bool skip, .bool gone, .string inb])] [fun W => VK W now A l, fun W => WK W A2 ws, fun W => NK W A3 ns, fun W => OwnL W v0.heap.size (.slice AO LO.length cO) LO] wr)) (fun _ i _ _ => n - (intOf i).toNat)
  case atStart => exact ⟨0, p, _, [], 0, now0, A0, l0, c0, on0, bad0, t0, A20, ws0, c20, A30, ns0, c30, skip0, gone0, inb0, Nat.zero_le _, Nat.le_refl _, rfl, rfl, Lib.hid ⟨rfl, AllL.nil⟩, by simp, HS⟩
  case round =>
    clear HS
    obtain ⟨k, q, AO, LO, cO, now, A, l, c, on, bad, t, A2, ws, c2, A3, ns, c3, skip, gone, inb, hk, hq, rfl, rfl, HLO, hwr, HQ⟩ := hrel
    have H := Lib.hid HQ.out
    clear HQ
    have hl60 : l.length ≤ 60 := (H.out.get 0 rfl).2.2.1
    by_cases hlt : k < n
    case neg =>
      obtain rfl : k = n := by omega
      have hkk : ¬ (k : Int) < (k : Int) := by omega
      obtain ⟨hc1, hc2⟩ : LO.length ≤ cO ∧ cO ≤ maxLen := by
        obtain ⟨A9, c9, e9, h1, h2, _⟩ := (H.out.get 3 rfl).sl
        injection e9 with _ _ e9
        subst e9
        exact ⟨h1, h2⟩
      go_wp2
      go_ret
      exact ⟨AO, LO, cO, q, rfl, LN.of (H.out.get 3 rfl) HLO.out.2 (by have := HLO.out.1; omega), hc1, hc2, by omega, H.out.rd, H.out.gr⟩
    have hki : (k : Int) < (n : Int) := by omega
    have HLT : Hid (∀ j, (Value.slice AO LO.length cO).ownBlock = some j → j < wr.heap.size) := Lib.hid (fun j hj => ((H.out.get 3 rfl).lt j hj).2)
    go_upto_region 5 with fail
    go_cut [11] (fun v11 wx => ∃ (g11 : Nat) (sg bd : ByteArray) (q1 : Nat), v11 = .pointer (some ⟨g11, 0, none⟩) ∧ Hid (LetS (sg, bd)) ∧ q1 ≤ q + 60 ∧ w.heap.size + 1 < g11 ∧ v0.heap.size ≤ wx.heap.size ∧ Hid (∀ j, (Value.slice AO LO.length cO).ownBlock = some j → j ≠ g11) ∧ Hid (SD u0 RA rb rc g q1 w [(w.heap.size, 32, #[.int .i64 now, .slice A l.length c]), (w.heap.size + 1, 81, #[.bool on, .bool bad, .int .i64 t, .slice A2 ws.length c2, .slice A3 ns.length c3, .bool skip, .bool gone, .string inb]), (g11, 94, #[.string sg, .string bd])] [fun W => VK W now A l, fun W => WK W A2 ws, fun W => NK W A3 ns, fun W => OwnL W v0.heap.size (.slice AO LO.length cO) LO] wx))
    case first =>
      have hB0_0 : ∀ W : World, Blk W (w.heap.size) 32 #[.int .i64 now, .slice A l.length c] → W.cell? ⟨w.heap.size, 0, none⟩ = some (.int .i64 now) := fun W h => h.cell 0
      have hB0_1 : ∀ W : World, Blk W (w.heap.size) 32 #[.int .i64 now, .slice A l.length c] → W.cell? ⟨w.heap.size, 1, none⟩ = some (.slice A l.length c) := fun W h => h.cell 1
      have hB1_0 : ∀ W : World, Blk W (w.heap.size + 1) 81 #[.bool on, .bool bad, .int .i64 t, .slice A2 ws.length c2, .slice A3 ns.length c3, .bool skip, .bool gone, .string inb] → W.cell? ⟨w.heap.size + 1, 0, none⟩ = some (.bool on) := fun W h => h.cell 0
      have hB1_1 : ∀ W : World, Blk W (w.heap.size + 1) 81 #[.bool on, .bool bad, .int .i64 t, .slice A2 ws.length c2, .slice A3 ns.length c3, .bool skip, .bool gone, .string inb] → W.cell? ⟨w.heap.size + 1, 1, none⟩ = some (.bool bad) := fun W h => h.cell 1
      have hB1_2 : ∀ W : World, Blk W (w.heap.size + 1) 81 #[.bool on, .bool bad, .int .i64 t, .slice A2 ws.length c2, .slice A3 ns.length c3, .bool skip, .bool gone, .string inb] → W.cell? ⟨w.heap.size + 1, 2, none⟩ = some (.int .i64 t) := fun W h => h.cell 2
      have hB1_3 : ∀ W : World, Blk W (w.heap.size + 1) 81 #[.bool on, .bool bad, .int .i64 t, .slice A2 ws.length c2, .slice A3 ns.length c3, .bool skip, .bool gone, .string inb] → W.cell? ⟨w.heap.size + 1, 3, none⟩ = some (.slice A2 ws.length c2) := fun W h => h.cell 3
      have hB1_4 : ∀ W : World, Blk W (w.heap.size + 1) 81 #[.bool on, .bool bad, .int .i64 t, .slice A2 ws.length c2, .slice A3 ns.length c3, .bool skip, .bool gone, .string inb] → W.cell? ⟨w.heap.size + 1, 4, none⟩ = some (.slice A3 ns.length c3) := fun W h => h.cell 4
      have hB1_5 : ∀ W : World, Blk W (w.heap.size + 1) 81 #[.bool on, .bool bad, .int .i64 t, .slice A2 ws.length c2, .slice A3 ns.length c3, .bool skip, .bool gone, .string inb] → W.cell? ⟨w.heap.size + 1, 5, none⟩ = some (.bool skip) := fun W h => h.cell 5
      have hB1_6 : ∀ W : World, Blk W (w.heap.size + 1) 81 #[.bool on, .bool bad, .int .i64 t, .slice A2 ws.length c2, .slice A3 ns.length c3, .bool skip, .bool gone, .string inb] → W.cell? ⟨w.heap.size + 1, 6, none⟩ = some (.bool gone) := fun W h => h.cell 6
      have hB1_7 : ∀ W : World, Blk W (w.heap.size + 1) 81 #[.bool on, .bool bad, .int .i64 t, .slice A2 ws.length c2, .slice A3 ns.length c3, .bool skip, .bool gone, .string inb] → W.cell? ⟨w.heap.size + 1, 7, none⟩ = some (.string inb) := fun W h => h.cell 7
      have hb5 : Blk wr (w.heap.size) 32 #[.int .i64 now, .slice A l.length c] := H.out.blk 0 rfl
      have hb6 : Blk wr (w.heap.size + 1) 81 #[.bool on, .bool bad, .int .i64 t, .slice A2 ws.length c2, .slice A3 ns.length c3, .bool skip, .bool gone, .string inb] := H.out.blk 1 rfl
      go_wp2_with fail
      have H0 := Lib.hid H.out
      replace H := Lib.hid (H.out.kept (kDB wr))
      go_region_held3 (fun W => Blk W (w.heap.size) 32 #[.int .i64 now, .slice A l.length c] ∧ Blk W (w.heap.size + 1) 81 #[.bool on, .bool bad, .int .i64 t, .slice A2 ws.length c2, .slice A3 ns.length c3, .bool skip, .bool gone, .string inb])
        ((refine ⟨?_, ?_⟩ <;> (repeat (first | (with_reducible assumption) | (with_reducible refine Blk.drew ?_) | (with_reducible refine Blk.alloc ?_ _) | (with_reducible refine Blk.far ?_ (by simp <;> omega) _)))))
        (first
          | (with_reducible show Calls _ _ _ (World.drew wr) _
             go_at_call 60
             refine (l2At_any A l c now now _ (by omega) (VK.sl (H.out.get 0 rfl))).mono ?_
             rintro e wz ⟨v, rfl, hov, hbz⟩
             obtain ⟨rs, hrs⟩ : ∃ rs, rs = atL l now := ⟨_, rfl⟩
             have HRF := Lib.hid (show rs.length ≤ 1000 ∧ (∀ x ∈ rs, x.1.size ≤ maxLen) from ⟨by rw [hrs]; have := atL_le l now; omega, by rw [hrs]; exact atL_fits (H0.out.get 0 rfl).2.1⟩)
             rw [← hrs] at hov
             have hoR : OwnR wz wr.heap.size v rs := Go.Joins.ownsRow_le hov (Nat.le_refl _)
             obtain ⟨AR, cR, rfl, _, _, hsR⟩ := hoR.sl
             have HRS := Lib.hid hsR
             have hgr : g < wr.heap.size := Nat.lt_of_lt_of_le hgw (Nat.le_trans (Nat.le_trans (Nat.le_succ _) (Nat.le_of_lt hb1)) hwr)
             have HNE : Hid (∀ b o, AR = some ⟨b, o, none⟩ → b ≠ g ∧ b < wz.heap.size) := Lib.hid (fun b o e => by have h9 := hoR.lt b (by rw [e]; rfl); omega)
             have hzS : wr.heap.size ≤ wz.heap.size := hbz.size
             replace H := Lib.hid (H.out.kept hbz)
             have hc0 : Blk wz (w.heap.size) 32 #[.int .i64 now, .slice A l.length c] := H.out.blk 0 rfl
             have hc1 : Blk wz (w.heap.size + 1) 81 #[.bool on, .bool bad, .int .i64 t, .slice A2 ws.length c2, .slice A3 ns.length c3, .bool skip, .bool gone, .string inb] := H.out.blk 1 rfl
             clear hov hoR hsR hrs hbz)
          | (with_reducible show Calls _ _ _ (World.drew (World.alloc wr _)) _
             go_at_call 60
             refine (l2At_any A l c now now _ (by omega) (VK.sl ((H0.out.kept (kFF wr (.cells #[.string ⟨#[]⟩, .string ⟨#[]⟩] 94)).drew).get 0 rfl))).mono ?_
             rintro e wz ⟨v, rfl, hov, hbz⟩
             obtain ⟨rs, hrs⟩ : ∃ rs, rs = atL l now := ⟨_, rfl⟩
             have HRF := Lib.hid (show rs.length ≤ 1000 ∧ (∀ x ∈ rs, x.1.size ≤ maxLen) from ⟨by rw [hrs]; have := atL_le l now; omega, by rw [hrs]; exact atL_fits (H0.out.get 0 rfl).2.1⟩)
             rw [← hrs] at hov
             have hoR : OwnR wz wr.heap.size v rs := Go.Joins.ownsRow_le hov (by show wr.heap.size ≤ (wr.alloc _).heap.size; rw [World.size_alloc]; exact Nat.le_succ _)
             obtain ⟨AR, cR, rfl, _, _, hsR⟩ := hoR.sl
             have HRS := Lib.hid hsR
             have hgr : g < wr.heap.size := Nat.lt_of_lt_of_le hgw (Nat.le_trans (Nat.le_trans (Nat.le_succ _) (Nat.le_of_lt hb1)) hwr)
             have HNE : Hid (∀ b o, AR = some ⟨b, o, none⟩ → b ≠ g ∧ b < wz.heap.size) := Lib.hid (fun b o e => by have h9 := hoR.lt b (by rw [e]; rfl); omega)
             have hzS : wr.heap.size ≤ wz.heap.size := Nat.le_trans (by simp) hbz.size
             have HBX := Lib.hid ((Blk.new wr 94 #[.string ⟨#[]⟩, .string ⟨#[]⟩]).drew.kept hbz)
             have hg11 : wr.heap.size < wz.heap.size := HBX.out.lt
             replace H := Lib.hid ((H0.out.kept (kFF wr (.cells #[.string ⟨#[]⟩, .string ⟨#[]⟩] 94)).drew).kept hbz)
             have hc0 : Blk wz (w.heap.size) 32 #[.int .i64 now, .slice A l.length c] := H.out.blk 0 rfl
             have hc1 : Blk wz (w.heap.size + 1) 81 #[.bool on, .bool bad, .int .i64 t, .slice A2 ws.length c2, .slice A3 ns.length c3, .bool skip, .bool gone, .string inb] := H.out.blk 1 rfl
             clear hov hoR hsR hrs hbz)
          | (with_reducible show Calls _ _ _ wz _
             go_at_call 135
             refine (l6Draw_any u0 RA rb rc g q AR rs cR A3 ns c3 _ H.out.rd (by omega) HRF.out.1 HRF.out.2 HRS.out HNE.out (H.out.get 2 rfl)).mono ?_
             rintro e v1 ⟨x, q1, rfl, hx, hq1, hR9, hG9⟩
             obtain ⟨sg, bd⟩ := x
             have HLS := Lib.hid hx
             first
             | (replace HBX := Lib.hid (Blk.grown HBX.out hG9 (by simp; omega)); have hy0 : v1.cell? ⟨wr.heap.size, 0, none⟩ = some (.string ⟨#[]⟩) := HBX.out.cell 0; have hy1 : v1.cell? ⟨wr.heap.size, 1, none⟩ = some (.string ⟨#[]⟩) := HBX.out.cell 1; have hyf := fun j => HBX.out.frozen j; have hyl := HBX.out.lt)
             | skip
             have hvS : wr.heap.size ≤ v1.heap.size := Nat.le_trans hzS hG9.size
             replace H := Lib.hid (H.out.draw hR9 hG9)
             have hc0 : Blk v1 (w.heap.size) 32 #[.int .i64 now, .slice A l.length c] := H.out.blk 0 rfl
             have hc1 : Blk v1 (w.heap.size + 1) 81 #[.bool on, .bool bad, .int .i64 t, .slice A2 ws.length c2, .slice A3 ns.length c3, .bool skip, .bool gone, .string inb] := H.out.blk 1 rfl
             clear hR9 hG9 hx)
          | (with_reducible show Calls _ _ _ (World.alloc wz _) _
             go_at_call 135
             refine (l6Draw_any u0 RA rb rc g q AR rs cR A3 ns c3 _ (H.out.kept (kFF wz (.cells #[.string ⟨#[]⟩, .string ⟨#[]⟩] 94))).rd (by omega) HRF.out.1 HRF.out.2 (HRS.out.below (kFF _ _)) (fun b o e => ⟨(HNE.out b o e).1, Nat.lt_of_lt_of_le (HNE.out b o e).2 (kFF _ _).size⟩) ((H.out.kept (kFF wz (.cells #[.string ⟨#[]⟩, .string ⟨#[]⟩] 94))).get 2 rfl)).mono ?_
             rintro e v1 ⟨x, q1, rfl, hx, hq1, hR9, hG9⟩
             obtain ⟨sg, bd⟩ := x
             have HLS := Lib.hid hx
             have HBY := Lib.hid ((Blk.new wz 94 #[.string ⟨#[]⟩, .string ⟨#[]⟩]).grown hG9 (by simp; omega))
             have hy0 : v1.cell? ⟨wz.heap.size, 0, none⟩ = some (.string ⟨#[]⟩) := HBY.out.cell 0
             have hy1 : v1.cell? ⟨wz.heap.size, 1, none⟩ = some (.string ⟨#[]⟩) := HBY.out.cell 1
             have hyf := fun j => HBY.out.frozen j
             have hyl := HBY.out.lt
             have hvS : wr.heap.size ≤ v1.heap.size := Nat.le_trans hzS (Nat.le_trans (kFF wz _).size hG9.size)
             replace H := Lib.hid ((H.out.kept (kFF wz (.cells #[.string ⟨#[]⟩, .string ⟨#[]⟩] 94))).draw hR9 hG9)
             have hc0 : Blk v1 (w.heap.size) 32 #[.int .i64 now, .slice A l.length c] := H.out.blk 0 rfl
             have hc1 : Blk v1 (w.heap.size + 1) 81 #[.bool on, .bool bad, .int .i64 t, .slice A2 ws.length c2, .slice A3 ns.length c3, .bool skip, .bool gone, .string inb] := H.out.blk 1 rfl
             clear hR9 hG9 hx))
      all_goals
        try go_wp2_with fail
        go_meet
        first
        | (refine ⟨v1.heap.size, sg, bd, q1, rfl, HLS, hq1, by omega, by rw [World.size_alloc]; omega, Lib.hid (fun j hj => by have := HLT.out j hj; omega), ?_⟩; exact Lib.hid (H.out.alloc 94 #[.string sg, .string bd]))
        | (refine ⟨wr.heap.size, sg, bd, q1, rfl, HLS, hq1, by omega, by simp only [World.size_setCell]; omega, Lib.hid (fun j hj => by have := HLT.out j hj; omega), ?_⟩; exact Lib.hid (SD.letBox H.out HBX.out (by omega) (by intro x hx; simp at hx; rcases hx with rfl | rfl <;> simp <;> omega) (fun j hj => by have := HLT.out j hj; omega) _ _))
        | (refine ⟨wz.heap.size, sg, bd, q1, rfl, HLS, hq1, by omega, by simp only [World.size_setCell]; omega, Lib.hid (fun j hj => by have := HLT.out j hj; omega), ?_⟩; exact Lib.hid (SD.letBox H.out HBY.out (by omega) (by intro x hx; simp at hx; rcases hx with rfl | rfl <;> simp <;> omega) (fun j hj => by have := HLT.out j hj; omega) _ _))
    case rest =>
      obtain ⟨g11, sg, bd, q1, rfl, HLS, hq1, hg11, hwc, HNG, HQ⟩ := hcut
      clear H HLT
      have H := Lib.hid HQ.out
      clear HQ
      have H : Hid (SD u0 RA rb rc g q1 w [(w.heap.size, 32, #[.int .i64 now, .slice A l.length c]), (w.heap.size + 1, 81, #[.bool on, .bool bad, .int .i64 t, .slice A2 ws.length c2, .slice A3 ns.length c3, .bool skip, .bool gone, .string inb]), (g11, 94, #[.string sg, .string bd])] [fun W => VK W now A l, fun W => WK W A2 ws, fun W => NK W A3 ns, fun W => OwnL W v0.heap.size (.slice AO LO.length cO) LO] wc) := Lib.hid H.out
      obtain ⟨i0, hi0, hz0, hz1, hz2⟩ := info_parts infoLet
      have HI := Lib.hid (⟨hi0, hz0, hz1, hz2⟩ : _ ∧ _ ∧ _ ∧ _)
      clear hi0 hz0 hz1 hz2
      have hLO : LO.length ≤ 20 := by have := HLO.out.1; omega
      have hownA := (H.out.get 3 rfl).alloc (.cells #[.string sg, .string bd] 94)
      have hnewA := new_cells wc [.string sg, .string bd] 94
      have H3 := Lib.hid (SD.only (H.out.kept (kFF wc (.cells #[.string sg, .string bd] 94))) [fun W => VK W now A l, fun W => WK W A2 ws, fun W => NK W A3 ns] (List.forall_mem_cons.2 ⟨⟨VK.c, (H.out.kept (kFF wc (.cells #[.string sg, .string bd] 94))).get 0 rfl⟩, List.forall_mem_cons.2 ⟨⟨WK.c, (H.out.kept (kFF wc (.cells #[.string sg, .string bd] 94))).get 1 rfl⟩, List.forall_mem_cons.2 ⟨⟨NK.c, (H.out.kept (kFF wc (.cells #[.string sg, .string bd] 94))).get 2 rfl⟩, fun P hP => absurd hP (by simp)⟩⟩⟩))
      have HNB : Hid (∀ b ∈ ([(w.heap.size, 32, #[.int .i64 now, .slice A l.length c]), (w.heap.size + 1, 81, #[.bool on, .bool bad, .int .i64 t, .slice A2 ws.length c2, .slice A3 ns.length c3, .bool skip, .bool gone, .string inb]), (g11, 94, #[.string sg, .string bd])] : List (Nat × TypeId × Array Value)), ∀ j, (Value.slice AO LO.length cO).ownBlock = some j → b.1 ≠ j) := Lib.hid (by
        intro b hb j hj
        have h8 := own_ge (H.out.get 3 rfl) hj
        have h9 := HNG.out j hj
        simp at hb
        rcases hb with rfl | rfl | rfl <;> simp <;> omega)
      obtain ⟨x2_0, x2_1⟩ := Blk.q2 (H.out.blk 2 rfl)
      clear H
      skip
      go_upto_region 7 with (at_builtin; refine wpList_append_own _ rfl (.tmp 26) (.tmp 28) 49 rfl v0.heap.size 94 i0 _ 2 32 Try.underlying49 HI.out.1 HI.out.2.1 HI.out.2.2.1 HI.out.2.2.2 rfl (by decide) (.slice AO LO.length cO) LO.length (LO.flatMap encLet) rfl hownA ⟨wc.heap.size, 0, none⟩ 1 1 [.string sg, .string bd] rfl rfl hnewA (by simp [Value.oneCell']) (by unfold maxLen; omega) (by omega) (by simp; omega) ?_; intro v8 w8 ho8 hg8 _; have hn8 := SD.grownX H3.out hownA hg8 HNB.out (by omega) (List.forall_mem_cons.2 ⟨VK.l, List.forall_mem_cons.2 ⟨WK.l, List.forall_mem_cons.2 ⟨NK.l, fun P hP => absurd hP (by simp)⟩⟩⟩); obtain ⟨M, hM, hAM, hoM⟩ : ∃ M : List Let, M.length = k + 1 ∧ AllL M ∧ OwnL w8 v0.heap.size v8 M := ⟨LO ++ [(sg, bd)], by have := HLO.out.1; simp; omega, HLO.out.2.snoc HLS.out, ownL_app ho8⟩; obtain ⟨A8, c8, rfl, _, _, _⟩ := hoM.sl; have H := Lib.hid (SD.add hn8 (fun W => OwnL W v0.heap.size (.slice A8 M.length c8) M) OwnL.c hoM); have HLM := Lib.hid (⟨hM, hAM⟩ : _ ∧ _); have hw8 : v0.heap.size ≤ w8.heap.size := Nat.le_trans hwc (Nat.le_trans (kFF wc (.cells #[.string sg, .string bd] 94)).size hg8.size); have x8_0 : w8.cell? ⟨g11, 0, none⟩ = some (.string sg) := (hn8.blk 2 rfl).cell 0; have x8_1 : w8.cell? ⟨g11, 1, none⟩ = some (.string bd) := (hn8.blk 2 rfl).cell 1; clear hn8 ho8 hg8 hM hAM hoM hownA hnewA)
      clear x2_0 x2_1 H3 HNB
      have H : Hid (SD u0 RA rb rc g q1 w [(w.heap.size, 32, #[.int .i64 now, .slice A l.length c]), (w.heap.size + 1, 81, #[.bool on, .bool bad, .int .i64 t, .slice A2 ws.length c2, .slice A3 ns.length c3, .bool skip, .bool gone, .string inb]), (g11, 94, #[.string sg, .string bd])] [fun W => VK W now A l, fun W => WK W A2 ws, fun W => NK W A3 ns, fun W => OwnL W v0.heap.size (.slice A8 M.length c8) M] w8) := Lib.hid H.out
      go_wp2_with fail
      refine (specOk_any (sg, bd) _ (Nat.le_trans HLS.out.1 (by decide)) (Nat.le_trans HLS.out.2 (by decide))).mono ?_
      rintro e w9 ⟨rfl, hb9⟩
      have hw9 : v0.heap.size ≤ w9.heap.size := Nat.le_trans hw8 hb9.size
      replace H := Lib.hid (H.out.kept hb9)
      clear x8_0 x8_1 hb9
      generalize letB (sg, bd) = bb at *
      cases bb
      case false =>
        have HD := Lib.hid (SD.drop (L := [(w.heap.size, 32, #[.int .i64 now, .slice A l.length c]), (w.heap.size + 1, 81, #[.bool on, .bool bad, .int .i64 t, .slice A2 ws.length c2, .slice A3 ns.length c3, .bool skip, .bool gone, .string inb])]) H.out)
        clear H
        go_wp2_with fail
        go_roundw
        case rel => first | exact ⟨k + 1, q1, A8, M, c8, now, A, l, c, on, bad, t, A2, ws, c2, A3, ns, c3, skip, gone, inb, by omega, by omega, by go_num, rfl, HLM, hw9, HD⟩ | ((repeat apply Exists.intro); exact ⟨⟨k + 1, q1, A8, M, c8, now, A, l, c, on, bad, t, A2, ws, c2, A3, ns, c3, skip, gone, inb, by omega, by omega, by go_num, rfl, HLM, hw9, HD⟩, rfl⟩)
        case measure => simp [intOf]; omega
      case true =>
        go_wp2_with fail
        replace H := Lib.hid (H.out.kept (kDB w9))
        have hw9d : v0.heap.size ≤ w9.drew.heap.size := hw9
        have hB0_0 : ∀ W : World, Blk W (w.heap.size) 32 #[.int .i64 now, .slice A l.length c] → W.cell? ⟨w.heap.size, 0, none⟩ = some (.int .i64 now) := fun W h => h.cell 0
        have hB0_1 : ∀ W : World, Blk W (w.heap.size) 32 #[.int .i64 now, .slice A l.length c] → W.cell? ⟨w.heap.size, 1, none⟩ = some (.slice A l.length c) := fun W h => h.cell 1
        have hB1_0 : ∀ W : World, Blk W (w.heap.size + 1) 81 #[.bool on, .bool bad, .int .i64 t, .slice A2 ws.length c2, .slice A3 ns.length c3, .bool skip, .bool gone, .string inb] → W.cell? ⟨w.heap.size + 1, 0, none⟩ = some (.bool on) := fun W h => h.cell 0
        have hB1_1 : ∀ W : World, Blk W (w.heap.size + 1) 81 #[.bool on, .bool bad, .int .i64 t, .slice A2 ws.length c2, .slice A3 ns.length c3, .bool skip, .bool gone, .string inb] → W.cell? ⟨w.heap.size + 1, 1, none⟩ = some (.bool bad) := fun W h => h.cell 1
        have hB1_2 : ∀ W : World, Blk W (w.heap.size + 1) 81 #[.bool on, .bool bad, .int .i64 t, .slice A2 ws.length c2, .slice A3 ns.length c3, .bool skip, .bool gone, .string inb] → W.cell? ⟨w.heap.size + 1, 2, none⟩ = some (.int .i64 t) := fun W h => h.cell 2
        have hB1_3 : ∀ W : World, Blk W (w.heap.size + 1) 81 #[.bool on, .bool bad, .int .i64 t, .slice A2 ws.length c2, .slice A3 ns.length c3, .bool skip, .bool gone, .string inb] → W.cell? ⟨w.heap.size + 1, 3, none⟩ = some (.slice A2 ws.length c2) := fun W h => h.cell 3
        have hB1_4 : ∀ W : World, Blk W (w.heap.size + 1) 81 #[.bool on, .bool bad, .int .i64 t, .slice A2 ws.length c2, .slice A3 ns.length c3, .bool skip, .bool gone, .string inb] → W.cell? ⟨w.heap.size + 1, 4, none⟩ = some (.slice A3 ns.length c3) := fun W h => h.cell 4
        have hB1_5 : ∀ W : World, Blk W (w.heap.size + 1) 81 #[.bool on, .bool bad, .int .i64 t, .slice A2 ws.length c2, .slice A3 ns.length c3, .bool skip, .bool gone, .string inb] → W.cell? ⟨w.heap.size + 1, 5, none⟩ = some (.bool skip) := fun W h => h.cell 5
        have hB1_6 : ∀ W : World, Blk W (w.heap.size + 1) 81 #[.bool on, .bool bad, .int .i64 t, .slice A2 ws.length c2, .slice A3 ns.length c3, .bool skip, .bool gone, .string inb] → W.cell? ⟨w.heap.size + 1, 6, none⟩ = some (.bool gone) := fun W h => h.cell 6
        have hB1_7 : ∀ W : World, Blk W (w.heap.size + 1) 81 #[.bool on, .bool bad, .int .i64 t, .slice A2 ws.length c2, .slice A3 ns.length c3, .bool skip, .bool gone, .string inb] → W.cell? ⟨w.heap.size + 1, 7, none⟩ = some (.string inb) := fun W h => h.cell 7
        have hB2_0 : ∀ W : World, Blk W (g11) 94 #[.string sg, .string bd] → W.cell? ⟨g11, 0, none⟩ = some (.string sg) := fun W h => h.cell 0
        have hB2_1 : ∀ W : World, Blk W (g11) 94 #[.string sg, .string bd] → W.cell? ⟨g11, 1, none⟩ = some (.string bd) := fun W h => h.cell 1
        have hc0 : Blk w9.drew (w.heap.size) 32 #[.int .i64 now, .slice A l.length c] := H.out.blk 0 rfl
        have hc1 : Blk w9.drew (w.heap.size + 1) 81 #[.bool on, .bool bad, .int .i64 t, .slice A2 ws.length c2, .slice A3 ns.length c3, .bool skip, .bool gone, .string inb] := H.out.blk 1 rfl
        have hc2 : Blk w9.drew (g11) 94 #[.string sg, .string bd] := H.out.blk 2 rfl
        refine wp_region_M (fun W => Blk W (w.heap.size) 32 #[.int .i64 now, .slice A l.length c] ∧ Blk W (w.heap.size + 1) 81 #[.bool on, .bool bad, .int .i64 t, .slice A2 ws.length c2, .slice A3 ns.length c3, .bool skip, .bool gone, .string inb] ∧ Blk W (g11) 94 #[.string sg, .string bd]) 10 (by kernel_rfl) ((by (try dsimp only); (refine ⟨?_, ?_, ?_⟩ <;> (repeat (first | (with_reducible assumption) | (with_reducible refine Blk.drew ?_) | (with_reducible refine Blk.alloc ?_ _) | (with_reducible refine Blk.far ?_ (by simp <;> omega) _)))))) (fun hHeld => ?_)
        refine wpAnyM_take (i := 0) (v := ?_) rfl (by kernel_rfl) (by kernel_rfl) (by kernel_rfl) (by kernel_rfl) (by decide) (fun _ _ _ h => h) (Or.inl ⟨by rfl, ?_⟩) (by assumption) ?_
        rotate_left 1
        · (intro w hSw; (try dsimp only at hSw); go_simp); all_goals (with_reducible rfl)
        try simp only [Act.put, List.getElem_toArray, List.getElem_cons_zero, List.setIfInBounds_toArray, List.set_cons_zero, List.set_cons_succ]
        refine wpAnyM_take (i := 2) (v := ?_) rfl (by kernel_rfl) (by kernel_rfl) (by kernel_rfl) (by kernel_rfl) (by decide) (fun _ _ _ h => h) (Or.inl ⟨by rfl, ?_⟩) (by assumption) ?_
        rotate_left 1
        · (intro w hSw; (try dsimp only at hSw); go_simp); all_goals (with_reducible rfl)
        try simp only [Act.put, List.getElem_toArray, List.getElem_cons_zero, List.getElem_cons_succ, List.setIfInBounds_toArray, List.set_cons_zero, List.set_cons_succ]
        refine wpAnyM_take (i := 4) (v := ?_) rfl (by kernel_rfl) (by kernel_rfl) (by kernel_rfl) (by kernel_rfl) (by decide) (fun _ _ _ h => h) (Or.inl ⟨by rfl, ?_⟩) (by assumption) ?_
        rotate_left 1
        · (intro w hSw; (try dsimp only at hSw); go_simp); all_goals (with_reducible rfl)
        try simp only [Act.put, List.getElem_toArray, List.getElem_cons_zero, List.getElem_cons_succ, List.setIfInBounds_toArray, List.set_cons_zero, List.set_cons_succ]
        refine wpAnyM_step (i := 1) (by kernel_rfl) rfl (by decide) (fun K hK => ?_)
        go_simp
        refine (l2Copy_any A l c now _ (by omega) (VK.sl (H.out.get 0 rfl))).mono ?_
        rintro e wa ⟨v, rfl, hov, hba⟩
        obtain ⟨A7, c7, rfl, _, _, _⟩ := hov.sl
        have HVV := Lib.hid (VK.of hov (H.out.get 0 rfl).2.1 (H.out.get 0 rfl).2.2.1 (H.out.get 0 rfl).2.2.2.1 (H.out.get 0 rfl).2.2.2.2)
        replace H := Lib.hid (H.out.kept hba)
        have hc0 : Blk wa (w.heap.size) 32 #[.int .i64 now, .slice A l.length c] := H.out.blk 0 rfl
        have hc1 : Blk wa (w.heap.size + 1) 81 #[.bool on, .bool bad, .int .i64 t, .slice A2 ws.length c2, .slice A3 ns.length c3, .bool skip, .bool gone, .string inb] := H.out.blk 1 rfl
        have hc2 : Blk wa (g11) 94 #[.string sg, .string bd] := H.out.blk 2 rfl
        have hwa : v0.heap.size ≤ wa.heap.size := Nat.le_trans hw9d hba.size
        clear hov hba
        go_wp2_with fail
        refine hK.out _ _ ?_ (fun hHeld => ?_)
        · (try dsimp only); (refine ⟨?_, ?_, ?_⟩ <;> (repeat (first | (with_reducible assumption) | (with_reducible refine Blk.drew ?_) | (with_reducible refine Blk.alloc ?_ _) | (with_reducible refine Blk.far ?_ (by simp <;> omega) _))))
        clear hK K
        try simp only [Act.put, List.getElem_toArray, List.getElem_cons_zero, List.getElem_cons_succ, List.setIfInBounds_toArray, List.set_cons_zero, List.set_cons_succ]
        refine wpAnyM_step (i := 3) (by kernel_rfl) rfl (by decide) (fun K hK => ?_)
        go_simp
        refine (l6Copy_any on bad t A2 ws c2 A3 ns c3 skip gone inb _ (H.out.get 1 rfl) (H.out.get 2 rfl)).mono ?_
        rintro e wb ⟨A6, c6, A63, c63, rfl, hW6, hN6, hbb⟩
        replace HVV := Lib.hid (VK.c _ _ (Kp.below hbb) HVV.out)
        have HWW := Lib.hid hW6
        have HNN := Lib.hid hN6
        replace H := Lib.hid (H.out.kept hbb)
        have hc0 : Blk wb (w.heap.size) 32 #[.int .i64 now, .slice A l.length c] := H.out.blk 0 rfl
        have hc1 : Blk wb (w.heap.size + 1) 81 #[.bool on, .bool bad, .int .i64 t, .slice A2 ws.length c2, .slice A3 ns.length c3, .bool skip, .bool gone, .string inb] := H.out.blk 1 rfl
        have hc2 : Blk wb (g11) 94 #[.string sg, .string bd] := H.out.blk 2 rfl
        have hwb : v0.heap.size ≤ wb.heap.size := Nat.le_trans hwa hbb.size
        clear hW6 hN6 hbb
        go_wp2_with fail
        refine hK.out _ _ ?_ (fun hHeld => ?_)
        · (try dsimp only); (refine ⟨?_, ?_, ?_⟩ <;> (repeat (first | (with_reducible assumption) | (with_reducible refine Blk.drew ?_) | (with_reducible refine Blk.alloc ?_ _) | (with_reducible refine Blk.far ?_ (by simp <;> omega) _))))
        clear hK K
        try simp only [Act.put, List.getElem_toArray, List.getElem_cons_zero, List.getElem_cons_succ, List.setIfInBounds_toArray, List.set_cons_zero, List.set_cons_succ]
        refine wpAnyM_step (i := 5) (by kernel_rfl) rfl (by decide) (fun K hK => ?_)
        go_simp
        refine (l6Letter_any A7 l c7 now on bad t A6 ws c6 A63 ns c63 skip gone inb (sg, bd) _ HVV.out HWW.out HNN.out (Nat.le_trans HLS.out.2 (by decide))).mono ?_
        rintro e wz ⟨nowu, Au, lu, cu, onu, badu, tu, A2u, wsu, c2u, A3u, nsu, c3u, skipu, goneu, inbu, A4, L, c4, rfl, hV2, hW2, hN2, hL2, hbz, _⟩
        replace H := Lib.hid (SD.add (SD.add (SD.add (H.out.kept hbz) (fun W => VK W nowu Au lu) VK.c hV2) (fun W => WK W A2u wsu) WK.c hW2) (fun W => NK W A3u nsu) NK.c hN2)
        have hwz : v0.heap.size ≤ wz.heap.size := Nat.le_trans hwb hbz.size
        have hc0 : Blk wz (w.heap.size) 32 #[.int .i64 now, .slice A l.length c] := H.out.blk 0 rfl
        have hc1 : Blk wz (w.heap.size + 1) 81 #[.bool on, .bool bad, .int .i64 t, .slice A2 ws.length c2, .slice A3 ns.length c3, .bool skip, .bool gone, .string inb] := H.out.blk 1 rfl
        have hc2 : Blk wz (g11) 94 #[.string sg, .string bd] := H.out.blk 2 rfl
        have hkk : wz.cell? ⟨w.heap.size, 0, none⟩ = some (.int .i64 now) ∧ wz.cell? ⟨w.heap.size, 1, none⟩ = some (.slice A l.length c) ∧ wz.cell? ⟨w.heap.size + 1, 0, none⟩ = some (.bool on) ∧ wz.cell? ⟨w.heap.size + 1, 1, none⟩ = some (.bool bad) ∧ wz.cell? ⟨w.heap.size + 1, 2, none⟩ = some (.int .i64 t) ∧ wz.cell? ⟨w.heap.size + 1, 3, none⟩ = some (.slice A2 ws.length c2) ∧ wz.cell? ⟨w.heap.size + 1, 4, none⟩ = some (.slice A3 ns.length c3) ∧ wz.cell? ⟨w.heap.size + 1, 5, none⟩ = some (.bool skip) ∧ wz.cell? ⟨w.heap.size + 1, 6, none⟩ = some (.bool gone) ∧ wz.cell? ⟨w.heap.size + 1, 7, none⟩ = some (.string inb) := ⟨(H.out.blk 0 rfl).cell 0, (H.out.blk 0 rfl).cell 1, (H.out.blk 1 rfl).cell 0, (H.out.blk 1 rfl).cell 1, (H.out.blk 1 rfl).cell 2, (H.out.blk 1 rfl).cell 3, (H.out.blk 1 rfl).cell 4, (H.out.blk 1 rfl).cell 5, (H.out.blk 1 rfl).cell 6, (H.out.blk 1 rfl).cell 7⟩
        have hf0 := fun j => (H.out.blk 0 rfl).frozen j
        have hf1 := fun j => (H.out.blk 1 rfl).frozen j
        have hl0 := (H.out.blk 0 rfl).lt
        have hl1 := (H.out.blk 1 rfl).lt
        clear hbz hV2 hW2 hN2 hL2
        go_wp2_with fail
        refine hK.out _ _ ?_ (fun hHeld => ?_)
        · (try dsimp only); (refine ⟨?_, ?_, ?_⟩ <;> (repeat (first | (with_reducible assumption) | (with_reducible refine Blk.drew ?_) | (with_reducible refine Blk.alloc ?_ _) | (with_reducible refine Blk.far ?_ (by simp <;> omega) _))))
        clear hK K
        try simp only [Act.put, List.getElem_toArray, List.getElem_cons_zero, List.getElem_cons_succ, List.setIfInBounds_toArray, List.set_cons_zero, List.set_cons_succ]
        refine wpAnyM_takeP (i := 6) (v := ?_) rfl (by kernel_rfl) (by kernel_rfl) (by kernel_rfl) (by decide) (fun _ _ _ h => h) (Or.inl ⟨by rfl, ?_⟩) (by assumption) ?_
        rotate_left 1
        · (intro w; go_simp); all_goals (with_reducible rfl)
        try simp only [Act.put, List.getElem_toArray, List.getElem_cons_zero, List.getElem_cons_succ, List.setIfInBounds_toArray, List.set_cons_zero, List.set_cons_succ]
        refine wpAnyM_takeP (i := 7) (v := ?_) rfl (by kernel_rfl) (by kernel_rfl) (by kernel_rfl) (by decide) (fun _ _ _ h => h) (Or.inl ⟨by rfl, ?_⟩) (by assumption) ?_
        rotate_left 1
        · (intro w; go_simp); all_goals (with_reducible rfl)
        try simp only [Act.put, List.getElem_toArray, List.getElem_cons_zero, List.getElem_cons_succ, List.setIfInBounds_toArray, List.set_cons_zero, List.set_cons_succ]
        refine wpAnyM_takeP (i := 8) (v := ?_) rfl (by kernel_rfl) (by kernel_rfl) (by kernel_rfl) (by decide) (fun _ _ _ h => h) (Or.inl ⟨by rfl, ?_⟩) (by assumption) ?_
        rotate_left 1
        · (intro w; go_simp); all_goals (with_reducible rfl)
        try simp only [Act.put, List.getElem_toArray, List.getElem_cons_zero, List.getElem_cons_succ, List.setIfInBounds_toArray, List.set_cons_zero, List.set_cons_succ]
        refine wpAnyM_takeP (i := 9) (v := ?_) rfl (by kernel_rfl) (by kernel_rfl) (by kernel_rfl) (by decide) (fun _ _ _ h => h) (Or.inl ⟨by rfl, ?_⟩) (by assumption) ?_
        rotate_left 1
        · (intro w; go_simp); all_goals (with_reducible rfl)
        try simp only [Act.put, List.getElem_toArray, List.getElem_cons_zero, List.getElem_cons_succ, List.setIfInBounds_toArray, List.set_cons_zero, List.set_cons_succ]
        refine wpAnyM_last (by kernel_rfl) rfl (fun K hK => ?_)
        go_simp
        refine hK.out _ _ ?_
        clear hK K
        try simp only [Act.put, List.getElem_toArray, List.getElem_cons_zero, List.getElem_cons_succ, List.setIfInBounds_toArray, List.set_cons_zero, List.set_cons_succ]
        refine wpAny_step (i := 11) (by kernel_rfl) rfl (fun K hK => ?_)
        go_simp
        refine hK.out _ _ ?_
        clear hK K
        try simp only [Act.put, List.getElem_toArray, List.getElem_cons_zero, List.getElem_cons_succ, List.setIfInBounds_toArray, List.set_cons_zero, List.set_cons_succ]
        refine wpAny_done (by kernel_rfl) ?_ _
        have HZ := Lib.hid (SD.put8 (SD.put2 (H.out) 0 (.int .i64 nowu) (.slice Au lu.length cu) rfl (by decide)) 1 (.bool onu) (.bool badu) (.int .i64 tu) (.slice A2u wsu.length c2u) (.slice A3u nsu.length c3u) (.bool skipu) (.bool goneu) (.string inbu) rfl (by decide))
        have HZ2 := Lib.hid (SD.drop (L := [(w.heap.size, 32, #[.int .i64 nowu, .slice Au lu.length cu]), (w.heap.size + 1, 81, #[.bool onu, .bool badu, .int .i64 tu, .slice A2u wsu.length c2u, .slice A3u nsu.length c3u, .bool skipu, .bool goneu, .string inbu])]) HZ.out)
        have HD : Hid (SD u0 RA rb rc g q1 w [(w.heap.size, 32, #[.int .i64 nowu, .slice Au lu.length cu]), (w.heap.size + 1, 81, #[.bool onu, .bool badu, .int .i64 tu, .slice A2u wsu.length c2u, .slice A3u nsu.length c3u, .bool skipu, .bool goneu, .string inbu])] [fun W => VK W nowu Au lu, fun W => WK W A2u wsu, fun W => NK W A3u nsu, fun W => OwnL W v0.heap.size (.slice A8 M.length c8) M] ((((((((((wz.setCell ⟨w.heap.size, 0, none⟩ (.int .i64 nowu)).setCell ⟨w.heap.size, 1, none⟩ (.slice Au lu.length cu)).setCell ⟨w.heap.size + 1, 0, none⟩ (.bool onu)).setCell ⟨w.heap.size + 1, 1, none⟩ (.bool badu)).setCell ⟨w.heap.size + 1, 2, none⟩ (.int .i64 tu)).setCell ⟨w.heap.size + 1, 3, none⟩ (.slice A2u wsu.length c2u)).setCell ⟨w.heap.size + 1, 4, none⟩ (.slice A3u nsu.length c3u)).setCell ⟨w.heap.size + 1, 5, none⟩ (.bool skipu)).setCell ⟨w.heap.size + 1, 6, none⟩ (.bool goneu)).setCell ⟨w.heap.size + 1, 7, none⟩ (.string inbu))) := Lib.hid (SD.only HZ2.out _ (List.forall_mem_cons.2 ⟨⟨VK.c, HZ.out.get 4 rfl⟩, List.forall_mem_cons.2 ⟨⟨WK.c, HZ.out.get 5 rfl⟩, List.forall_mem_cons.2 ⟨⟨NK.c, HZ.out.get 6 rfl⟩, List.forall_mem_cons.2 ⟨⟨OwnL.c, HZ.out.get 3 rfl⟩, fun P hP => absurd hP (by simp)⟩⟩⟩⟩))
        have hwz2 : v0.heap.size ≤ ((((((((((wz.setCell ⟨w.heap.size, 0, none⟩ (.int .i64 nowu)).setCell ⟨w.heap.size, 1, none⟩ (.slice Au lu.length cu)).setCell ⟨w.heap.size + 1, 0, none⟩ (.bool onu)).setCell ⟨w.heap.size + 1, 1, none⟩ (.bool badu)).setCell ⟨w.heap.size + 1, 2, none⟩ (.int .i64 tu)).setCell ⟨w.heap.size + 1, 3, none⟩ (.slice A2u wsu.length c2u)).setCell ⟨w.heap.size + 1, 4, none⟩ (.slice A3u nsu.length c3u)).setCell ⟨w.heap.size + 1, 5, none⟩ (.bool skipu)).setCell ⟨w.heap.size + 1, 6, none⟩ (.bool goneu)).setCell ⟨w.heap.size + 1, 7, none⟩ (.string inbu)).heap.size := by simp only [World.size_setCell]; exact hwz
        clear H HZ HZ2
        go_wp2_with fail
        go_roundw
        case rel => first | exact ⟨k + 1, q1, A8, M, c8, nowu, Au, lu, cu, onu, badu, tu, A2u, wsu, c2u, A3u, nsu, c3u, skipu, goneu, inbu, by omega, by omega, by go_num, rfl, HLM, hwz2, HD⟩ | ((repeat apply Exists.intro); exact ⟨⟨k + 1, q1, A8, M, c8, nowu, Au, lu, cu, onu, badu, tu, A2u, wsu, c2u, A3u, nsu, c3u, skipu, goneu, inbu, by omega, by omega, by go_num, rfl, HLM, hwz2, HD⟩, rfl⟩)
        case measure => simp [intOf]; omega
end Go.Proofs.Ytpjkcmmmpgncmaa
