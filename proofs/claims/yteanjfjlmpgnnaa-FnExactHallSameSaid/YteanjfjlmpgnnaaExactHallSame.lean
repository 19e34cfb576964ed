/- FnExactHallSame: whether two halls are one, the program says as the reference says. For all arguments. No condition. -/
import Derived.Test.YteanjfjlmpgnnaaTkSc
import Derived.Test.YteanjfjlmpgnnaaTkTs
import Derived.Test.YteanjfjlmpgnnaaTkEq
import Derived.Test.YteanjfjlmpgnnaaTkOp
import Derived.Deep.RegionHeld3
namespace Go.Proofs.Yteanjfjlmpgnnaa
open Go.RowKit Go.ChangeShapes Go.WideShapes Go.ChangeAt Go.Deep
theorem OwnV.readsH {w : World} {B c : Nat} {A : Option Addr} {l : List Ver} (h : OwnV w B (.slice A l.length c) l) : Sl encVer 4 w A l := by
  obtain ⟨a1, a2, a3, _, _, a4⟩ := h.sl
  injection a3 with b1 b2 b3
  subst b1; exact a4
/-- a hall in a box -/
def HB (T : TypeId) (g : Nat) (now : Int) (A : Option Addr) (l : List Ver) (c : Nat) (B : Option Addr) (ts : List Tk) (d : Nat) (W : World) : Prop :=
  Blk W g T #[.int .i64 now, .slice A l.length c, .slice B ts.length d] ∧ Sl encVer 4 W A l ∧ SlT W B ts
theorem HB.below {T : TypeId} {g : Nat} {now : Int} {A : Option Addr} {l : List Ver} {c : Nat} {B : Option Addr} {ts : List Tk} {d : Nat} {W W' : World} (h : HB T g now A l c B ts d W) (hb : Below W.heap.size W W') : HB T g now A l c B ts d W' := ⟨h.1.kept hb, h.2.1.below hb, h.2.2.below hb⟩
def LenC (cs : List TkC) : Prop := ∀ x ∈ cs, x.2.2.2.1.length ≤ 1048576 ∧ x.2.2.2.2.1.length ≤ 1048576
theorem lenC_of {ts : List Tk} (h : LenC (tkS ts)) : ∀ t ∈ ts, t.ws.2.2.length ≤ 1048576 ∧ t.ns.2.2.length ≤ 1048576 := fun t ht => h (tkC t) (List.mem_map.2 ⟨t, ht, rfl⟩)
theorem lenC_sz {cs : List TkC} (h : tssz cs ≤ 1048576) : LenC cs := by
  intro x hx
  have h1 : tsz x ≤ tssz cs := by
    clear h
    induction cs with
    | nil => simp at hx
    | cons y cs ih =>
      unfold tssz at *
      rw [List.map_cons, List.sum_cons]
      rcases List.mem_cons.1 hx with rfl | hx
      · omega
      · have := ih hx; omega
  unfold tsz at h1
  omega
set_option maxRecDepth 100000 in
set_option maxHeartbeats 6000000 in
theorem lawHallSame (now now2 : Int) (A A2 : Option Addr) (l l2 : List Ver) (c c2 : Nat) (B By : Option Addr) (ts ts2 : List Tk) (d d2 : Nat) (w : World) (hf : FitsV l) (hf2 : FitsV l2) (hn : ts.length ≤ maxLen) (hn2 : ts2.length ≤ maxLen) (hg : ∀ t ∈ ts, FitsT t) (hg2 : ∀ t ∈ ts2, FitsT t) (hV : Sl encVer 4 w A l) (hV2 : Sl encVer 4 w A2 l2) (hT : SlT w B ts) (hT2 : SlT w By ts2) :
    Calls Try.prog 3 #[.agg #[.int .i64 now, .slice A l.length c, .slice B ts.length d], .agg #[.int .i64 now2, .slice A2 l2.length c2, .slice By ts2.length d2]] w fun e w' => e = .returned (.bool true) ∧ Below w.heap.size w w' := by
  have hb0 := ((Below.refl w.heap.size w).alloc (Nat.le_refl _) (.cells #[.int .i64 now, .slice A l.length c, .slice B ts.length d] 27)).alloc (by simp) (.cells #[.int .i64 now2, .slice A2 l2.length c2, .slice By ts2.length d2] 27)
  have hA1 := (Blk.new w 27 #[.int .i64 now, .slice A l.length c, .slice B ts.length d]).alloc (.cells #[.int .i64 now2, .slice A2 l2.length c2, .slice By ts2.length d2] 27)
  have hA2 := Blk.new (w.alloc (.cells #[.int .i64 now, .slice A l.length c, .slice B ts.length d] 27)) 27 #[.int .i64 now2, .slice A2 l2.length c2, .slice By ts2.length d2]
  simp only [World.size_alloc] at hA2
  have HA := Lib.hid (show HB 27 w.heap.size now A l c B ts d ((w.alloc (.cells #[.int .i64 now, .slice A l.length c, .slice B ts.length d] 27)).alloc (.cells #[.int .i64 now2, .slice A2 l2.length c2, .slice By ts2.length d2] 27)) from ⟨hA1, hV.below hb0, hT.below hb0⟩)
  have HE := Lib.hid (show HB 27 (w.heap.size + 1) now2 A2 l2 c2 By ts2 d2 ((w.alloc (.cells #[.int .i64 now, .slice A l.length c, .slice B ts.length d] 27)).alloc (.cells #[.int .i64 now2, .slice A2 l2.length c2, .slice By ts2.length d2] 27)) from ⟨hA2, hV2.below hb0, hT2.below hb0⟩)
  have HW := Lib.hid hb0
  have HSZ := Lib.hid (szHall_any A l c now B ts d 1048576 ((w.alloc (.cells #[.int .i64 now, .slice A l.length c, .slice B ts.length d] 27)).alloc (.cells #[.int .i64 now2, .slice A2 l2.length c2, .slice By ts2.length d2] 27)) hf HA.out.2.1 hn hg HA.out.2.2 (by omega) (by omega))
  have a0 : ((w.alloc (.cells #[.int .i64 now, .slice A l.length c, .slice B ts.length d] 27)).alloc (.cells #[.int .i64 now2, .slice A2 l2.length c2, .slice By ts2.length d2] 27)).cell? ⟨w.heap.size, 0, none⟩ = some (.int .i64 now) := hA1.cell 0
  have a1 : ((w.alloc (.cells #[.int .i64 now, .slice A l.length c, .slice B ts.length d] 27)).alloc (.cells #[.int .i64 now2, .slice A2 l2.length c2, .slice By ts2.length d2] 27)).cell? ⟨w.heap.size, 1, none⟩ = some (.slice A l.length c) := hA1.cell 1
  have a2 : ((w.alloc (.cells #[.int .i64 now, .slice A l.length c, .slice B ts.length d] 27)).alloc (.cells #[.int .i64 now2, .slice A2 l2.length c2, .slice By ts2.length d2] 27)).cell? ⟨w.heap.size, 2, none⟩ = some (.slice B ts.length d) := hA1.cell 2
  have b0 : ((w.alloc (.cells #[.int .i64 now, .slice A l.length c, .slice B ts.length d] 27)).alloc (.cells #[.int .i64 now2, .slice A2 l2.length c2, .slice By ts2.length d2] 27)).cell? ⟨w.heap.size + 1, 0, none⟩ = some (.int .i64 now2) := hA2.cell 0
  have b1 : ((w.alloc (.cells #[.int .i64 now, .slice A l.length c, .slice B ts.length d] 27)).alloc (.cells #[.int .i64 now2, .slice A2 l2.length c2, .slice By ts2.length d2] 27)).cell? ⟨w.heap.size + 1, 1, none⟩ = some (.slice A2 l2.length c2) := hA2.cell 1
  have b2 : ((w.alloc (.cells #[.int .i64 now, .slice A l.length c, .slice B ts.length d] 27)).alloc (.cells #[.int .i64 now2, .slice A2 l2.length c2, .slice By ts2.length d2] 27)).cell? ⟨w.heap.size + 1, 2, none⟩ = some (.slice By ts2.length d2) := hA2.cell 2
  clear hA1 hA2 hb0 hV hV2 hT hT2 hg hf
  have HG2 := Lib.hid hg2
  clear hg2
  unfold maxLen at hn hn2
  go_enter Try.func3, Try.ntmps3
  go_wp2_with fail
  generalize (w.alloc (.cells #[.int .i64 now, .slice A l.length c, .slice B ts.length d] 27)).alloc (.cells #[.int .i64 now2, .slice A2 l2.length c2, .slice By ts2.length d2] 27) = w0 at *
  refine HSZ.out.mono ?_
  rintro e w2 ⟨rfl, hbk⟩
  have HA := Lib.hid (HA.out.below hbk)
  have HE := Lib.hid (HE.out.below hbk)
  have HW := Lib.hid (bthen HW.out hbk)
  have hbe := HW.out
  clear HSZ hbk a0 a1 a2 b0 b1 b2
  by_cases hs1 : ¬ (((l.length + vsz l) + (ts.length + tssz (tkS ts)) : Nat) : Int) ≤ 1048576
  · have HZ := Lib.hid (sz_no (t := (l.length + vsz l) + (ts.length + tssz (tkS ts))) (a := 1048576) (by omega))
    rw [HZ.out]
    go_wp2
    go_ret
    exact ⟨rfl, hbe⟩
  have hs1 := Decidable.not_not.1 hs1
  have HZ := Lib.hid (sz_yes hs1)
  rw [HZ.out]
  have HLX := Lib.hid (show l.length ≤ 1048576 ∧ ts.length ≤ 1048576 ∧ (∀ t ∈ ts, t.ws.2.2.length ≤ 1048576 ∧ t.ns.2.2.length ≤ 1048576) from ⟨by omega, by omega, lenC_of (lenC_sz (by omega))⟩)
  generalize hle : (1048576 : Int) - (((l.length + vsz l) + (ts.length + tssz (tkS ts)) : Nat) : Int) = left at *
  have hl0 : 0 ≤ left := by omega
  have hl1 : left ≤ 1048576 := by omega
  have hd1 : decide (left < 0) = false := decide_eq_false (by omega)
  clear HZ hle hs1 hbe
  have HSZ := Lib.hid (szHall_any A2 l2 c2 now2 By ts2 d2 left w2 hf2 HE.out.2.1 (by unfold maxLen; omega) HG2.out HE.out.2.2 hl0 hl1)
  have b0 : w2.cell? ⟨w.heap.size + 1, 0, none⟩ = some (.int .i64 now2) := HE.out.1.cell 0
  have b1 : w2.cell? ⟨w.heap.size + 1, 1, none⟩ = some (.slice A2 l2.length c2) := HE.out.1.cell 1
  have b2 : w2.cell? ⟨w.heap.size + 1, 2, none⟩ = some (.slice By ts2.length d2) := HE.out.1.cell 2
  go_wp2_with fail
  refine HSZ.out.mono ?_
  rintro e w3 ⟨rfl, hbk⟩
  have HA := Lib.hid (HA.out.below hbk)
  have HE := Lib.hid (HE.out.below hbk)
  have HW := Lib.hid (bthen HW.out hbk)
  have hbe := HW.out
  clear HSZ hbk b0 b1 b2 hd1
  by_cases hs1 : ¬ (((l2.length + vsz l2) + (ts2.length + tssz (tkS ts2)) : Nat) : Int) ≤ left
  · have HZ := Lib.hid (sz_no (t := (l2.length + vsz l2) + (ts2.length + tssz (tkS ts2))) (a := left) (by omega))
    rw [HZ.out]
    go_wp2
    go_ret
    exact ⟨rfl, hbe⟩
  have hs1 := Decidable.not_not.1 hs1
  have HZ := Lib.hid (sz_yes hs1)
  rw [HZ.out]
  have HLY := Lib.hid (show l2.length ≤ 1048576 ∧ ts2.length ≤ 1048576 ∧ (∀ t ∈ ts2, t.ws.2.2.length ≤ 1048576 ∧ t.ns.2.2.length ≤ 1048576) from ⟨by omega, by omega, lenC_of (lenC_sz (by omega))⟩)
  generalize hle : left - (((l2.length + vsz l2) + (ts2.length + tssz (tkS ts2)) : Nat) : Int) = left2 at *
  have hd1 : decide (left2 < 0) = false := decide_eq_false (by omega)
  clear HZ hle hs1 hbe hl0 hl1 HG2 hn hn2
  obtain ⟨CX, hcx⟩ : ∃ CX, tkS ts = CX := ⟨_, rfl⟩
  obtain ⟨CY, hcy⟩ : ∃ CY, tkS ts2 = CY := ⟨_, rfl⟩
  have HCX := Lib.hid hcx
  have HCY := Lib.hid hcy
  clear hcx hcy
  obtain ⟨q, hq⟩ : ∃ q, q = eqC (now, l, CX) (now2, l2, CY) := ⟨_, rfl⟩
  have HQ := Lib.hid hq
  have dne : (q != q) = false := by simp
  clear hq
  have HA := Lib.hid (HA.out.below (Below.refl w3.heap.size w3).drew)
  have HE := Lib.hid (HE.out.below (Below.refl w3.heap.size w3).drew)
  have HW := Lib.hid (bthen HW.out (Below.refl w3.heap.size w3).drew)
  have a0 : w3.cell? ⟨w.heap.size, 0, none⟩ = some (.int .i64 now) := HA.out.1.cell 0
  have a1 : w3.cell? ⟨w.heap.size, 1, none⟩ = some (.slice A l.length c) := HA.out.1.cell 1
  have a2 : w3.cell? ⟨w.heap.size, 2, none⟩ = some (.slice B ts.length d) := HA.out.1.cell 2
  have b0 : w3.cell? ⟨w.heap.size + 1, 0, none⟩ = some (.int .i64 now2) := HE.out.1.cell 0
  have b1 : w3.cell? ⟨w.heap.size + 1, 1, none⟩ = some (.slice A2 l2.length c2) := HE.out.1.cell 1
  have b2 : w3.cell? ⟨w.heap.size + 1, 2, none⟩ = some (.slice By ts2.length d2) := HE.out.1.cell 2
  go_wp2_with fail
  go_region_held3 (fun W => W.cell? ⟨w.heap.size, 0, none⟩ = some (.int .i64 now) ∧ W.cell? ⟨w.heap.size, 1, none⟩ = some (.slice A l.length c) ∧ W.cell? ⟨w.heap.size, 2, none⟩ = some (.slice B ts.length d) ∧ W.cell? ⟨w.heap.size + 1, 0, none⟩ = some (.int .i64 now2) ∧ W.cell? ⟨w.heap.size + 1, 1, none⟩ = some (.slice A2 l2.length c2) ∧ W.cell? ⟨w.heap.size + 1, 2, none⟩ = some (.slice By ts2.length d2))
    (first | assumption | go_keep)
    (first
      | (go_at_call 12
         refine (specHallSame_any now now2 Ax Ay l l2 cx cy Bx Bz qx qy dx dy _ HLX.out.1 HLY.out.1 HLQX.out.1 HLQY.out.1 HLQX.out.2 HLQY.out.2 HX.out.1 HY.out.1 HX.out.2 HY.out.2).mono ?_
         rintro e wk ⟨he, hbk⟩
         rw [HQX.out, HQY.out, ← HQ.out] at he
         subst he
         have HA := Lib.hid (HA.out.below hbk)
         have HE := Lib.hid (HE.out.below hbk)
         have HW := Lib.hid (bthen HW.out hbk)
         have hkk : wk.cell? ⟨w.heap.size, 0, none⟩ = some (.int .i64 now) ∧ wk.cell? ⟨w.heap.size, 1, none⟩ = some (.slice A l.length c) ∧ wk.cell? ⟨w.heap.size, 2, none⟩ = some (.slice B ts.length d) ∧ wk.cell? ⟨w.heap.size + 1, 0, none⟩ = some (.int .i64 now2) ∧ wk.cell? ⟨w.heap.size + 1, 1, none⟩ = some (.slice A2 l2.length c2) ∧ wk.cell? ⟨w.heap.size + 1, 2, none⟩ = some (.slice By ts2.length d2) := ⟨HA.out.1.cell 0, HA.out.1.cell 1, HA.out.1.cell 2, HE.out.1.cell 0, HE.out.1.cell 1, HE.out.1.cell 2⟩
         clear hbk)
      | (go_at_call 13
         refine (toHall_any _ _ _ _ _ _ _ _ ?_ ?_ ?_ ?_ ?_).mono ?_
         (first | exact HLX.out.1 | exact HLY.out.1)
         (first | exact HLX.out.2.1 | exact HLY.out.2.1)
         (first | exact HLX.out.2.2 | exact HLY.out.2.2)
         (first | exact HA.out.2.1 | exact HE.out.2.1)
         (first | exact HA.out.2.2 | exact HE.out.2.2)
         rintro e wk ⟨Ao, co, Aq, cq, qs, rfl, hqs, hov, hot, hbk⟩
         first
           | (rw [HCX.out] at hqs
              obtain ⟨Ax, hax⟩ : ∃ Ax, Ax = Ao := ⟨_, rfl⟩
              obtain ⟨cx, hcx⟩ : ∃ cx, cx = co := ⟨_, rfl⟩
              obtain ⟨Bx, hbx⟩ : ∃ Bx, Bx = Aq := ⟨_, rfl⟩
              obtain ⟨dx, hdx⟩ : ∃ dx, dx = cq := ⟨_, rfl⟩
              obtain ⟨qx, hqx⟩ : ∃ qx, qx = qs := ⟨_, rfl⟩
              subst hax; subst hcx; subst hbx; subst hdx; subst hqx
              have HQX := Lib.hid hqs
              have HLQX := Lib.hid (show qx.length ≤ 1048576 ∧ (∀ t ∈ qx, t.ws.2.2.length ≤ 1048576 ∧ t.ns.2.2.length ≤ 1048576) from ⟨by rw [← tkS_len qx, hqs, ← HCX.out, tkS_len]; exact HLX.out.2.1, lenC_of (by rw [hqs, ← HCX.out]; exact fun x hx => by obtain ⟨t, ht, rfl⟩ := List.mem_map.1 hx; exact HLX.out.2.2 t ht)⟩)
              have HX := Lib.hid (⟨hov.readsH, hot.1⟩ : _ ∧ _)
              try have HY := Lib.hid (⟨HY.out.1.below hbk, HY.out.2.below hbk⟩ : _ ∧ _))
           | (rw [HCY.out] at hqs
              obtain ⟨Ay, hax⟩ : ∃ Ay, Ay = Ao := ⟨_, rfl⟩
              obtain ⟨cy, hcx⟩ : ∃ cy, cy = co := ⟨_, rfl⟩
              obtain ⟨Bz, hbx⟩ : ∃ Bz, Bz = Aq := ⟨_, rfl⟩
              obtain ⟨dy, hdx⟩ : ∃ dy, dy = cq := ⟨_, rfl⟩
              obtain ⟨qy, hqx⟩ : ∃ qy, qy = qs := ⟨_, rfl⟩
              subst hax; subst hcx; subst hbx; subst hdx; subst hqx
              have HQY := Lib.hid hqs
              have HLQY := Lib.hid (show qy.length ≤ 1048576 ∧ (∀ t ∈ qy, t.ws.2.2.length ≤ 1048576 ∧ t.ns.2.2.length ≤ 1048576) from ⟨by rw [← tkS_len qy, hqs, ← HCY.out, tkS_len]; exact HLY.out.2.1, lenC_of (by rw [hqs, ← HCY.out]; exact fun x hx => by obtain ⟨t, ht, rfl⟩ := List.mem_map.1 hx; exact HLY.out.2.2 t ht)⟩)
              have HY := Lib.hid (⟨hov.readsH, hot.1⟩ : _ ∧ _)
              try have HX := Lib.hid (⟨HX.out.1.below hbk, HX.out.2.below hbk⟩ : _ ∧ _))
         have HA := Lib.hid (HA.out.below hbk)
         have HE := Lib.hid (HE.out.below hbk)
         have HW := Lib.hid (bthen HW.out hbk)
         have hkk : wk.cell? ⟨w.heap.size, 0, none⟩ = some (.int .i64 now) ∧ wk.cell? ⟨w.heap.size, 1, none⟩ = some (.slice A l.length c) ∧ wk.cell? ⟨w.heap.size, 2, none⟩ = some (.slice B ts.length d) ∧ wk.cell? ⟨w.heap.size + 1, 0, none⟩ = some (.int .i64 now2) ∧ wk.cell? ⟨w.heap.size + 1, 1, none⟩ = some (.slice A2 l2.length c2) ∧ wk.cell? ⟨w.heap.size + 1, 2, none⟩ = some (.slice By ts2.length d2) := ⟨HA.out.1.cell 0, HA.out.1.cell 1, HA.out.1.cell 2, HE.out.1.cell 0, HE.out.1.cell 1, HE.out.1.cell 2⟩
         clear hbk hqs hov hot))
  all_goals
    clear HX HY HLQX HLQY HQX HQY a0 a1 a2 b0 b1 b2
    try clear hkk
    try clear hs1
    clear hd1
    have HCC := Lib.hid (toHall_any A l c now B ts d wk HLX.out.1 HLX.out.2.1 HLX.out.2.2 HA.out.2.1 HA.out.2.2)
    have fa0 : wk.cell? ⟨w.heap.size, 0, none⟩ = some (.int .i64 now) := HA.out.1.cell 0
    have fa1 : wk.cell? ⟨w.heap.size, 1, none⟩ = some (.slice A l.length c) := HA.out.1.cell 1
    have fa2 : wk.cell? ⟨w.heap.size, 2, none⟩ = some (.slice B ts.length d) := HA.out.1.cell 2
    go_wp2_with fail
    refine HCC.out.mono ?_
    rintro e w5 ⟨A5, c5, B5, d5, q5, rfl, hq5, hov, hot, hbk⟩
    rw [HCX.out] at hq5
    have hbn := (Below.refl w5.heap.size w5).alloc (Nat.le_refl _) (.cells #[.int .i64 now, .slice A5 l.length c5, .slice B5 q5.length d5] 35)
    have HG := Lib.hid (show HB 35 w5.heap.size now A5 l c5 B5 q5 d5 (w5.alloc (.cells #[.int .i64 now, .slice A5 l.length c5, .slice B5 q5.length d5] 35)) from ⟨Blk.new w5 35 _, hov.readsH.below hbn, hot.1.below hbn⟩)
    have HQ5 := Lib.hid hq5
    have HL5 := Lib.hid (show q5.length ≤ 1048576 ∧ (∀ t ∈ q5, t.ws.2.2.length ≤ 1048576 ∧ t.ns.2.2.length ≤ 1048576) from ⟨by rw [← tkS_len q5, hq5, ← HCX.out, tkS_len]; exact HLX.out.2.1, lenC_of (by rw [hq5, ← HCX.out]; exact fun x hx => by obtain ⟨t, ht, rfl⟩ := List.mem_map.1 hx; exact HLX.out.2.2 t ht)⟩)
    have HA := Lib.hid (HA.out.below (bthen hbk hbn))
    have HE := Lib.hid (HE.out.below (bthen hbk hbn))
    have HW := Lib.hid (bthen HW.out (bthen hbk hbn))
    clear HCC hbk hbn hov hot hq5 fa0 fa1 fa2
    have HCC := Lib.hid (toHall_any A2 l2 c2 now2 By ts2 d2 (w5.alloc (.cells #[.int .i64 now, .slice A5 l.length c5, .slice B5 q5.length d5] 35)) HLY.out.1 HLY.out.2.1 HLY.out.2.2 HE.out.2.1 HE.out.2.2)
    have fe0 : (w5.alloc (.cells #[.int .i64 now, .slice A5 l.length c5, .slice B5 q5.length d5] 35)).cell? ⟨w.heap.size + 1, 0, none⟩ = some (.int .i64 now2) := HE.out.1.cell 0
    have fe1 : (w5.alloc (.cells #[.int .i64 now, .slice A5 l.length c5, .slice B5 q5.length d5] 35)).cell? ⟨w.heap.size + 1, 1, none⟩ = some (.slice A2 l2.length c2) := HE.out.1.cell 1
    have fe2 : (w5.alloc (.cells #[.int .i64 now, .slice A5 l.length c5, .slice B5 q5.length d5] 35)).cell? ⟨w.heap.size + 1, 2, none⟩ = some (.slice By ts2.length d2) := HE.out.1.cell 2
    go_wp2_with fail
    generalize w5.alloc (.cells #[.int .i64 now, .slice A5 l.length c5, .slice B5 q5.length d5] 35) = w6 at *
    generalize w5.heap.size = g7 at *
    refine HCC.out.mono ?_
    rintro e w7 ⟨A6, c6, B6, d6, q6, rfl, hq6, hov, hot, hbk⟩
    rw [HCY.out] at hq6
    have hbn := (Below.refl w7.heap.size w7).alloc (Nat.le_refl _) (.cells #[.int .i64 now2, .slice A6 l2.length c6, .slice B6 q6.length d6] 35)
    have HK := Lib.hid (show HB 35 w7.heap.size now2 A6 l2 c6 B6 q6 d6 (w7.alloc (.cells #[.int .i64 now2, .slice A6 l2.length c6, .slice B6 q6.length d6] 35)) from ⟨Blk.new w7 35 _, hov.readsH.below hbn, hot.1.below hbn⟩)
    have HQ6 := Lib.hid hq6
    have HL6 := Lib.hid (show q6.length ≤ 1048576 ∧ (∀ t ∈ q6, t.ws.2.2.length ≤ 1048576 ∧ t.ns.2.2.length ≤ 1048576) from ⟨by rw [← tkS_len q6, hq6, ← HCY.out, tkS_len]; exact HLY.out.2.1, lenC_of (by rw [hq6, ← HCY.out]; exact fun x hx => by obtain ⟨t, ht, rfl⟩ := List.mem_map.1 hx; exact HLY.out.2.2 t ht)⟩)
    have HA := Lib.hid (HA.out.below (bthen hbk hbn))
    have HE := Lib.hid (HE.out.below (bthen hbk hbn))
    have HG := Lib.hid (HG.out.below (bthen hbk hbn))
    have HW := Lib.hid (bthen HW.out (bthen hbk hbn))
    clear HCC hbk hbn hov hot hq6 fe0 fe1 fe2
    have HCC := Lib.hid (implHallSame_any now now2 A5 A6 l l2 c5 c6 B5 B6 q5 q6 d5 d6 (w7.alloc (.cells #[.int .i64 now2, .slice A6 l2.length c6, .slice B6 q6.length d6] 35)) HLX.out.1 HLY.out.1 HL5.out.1 HL6.out.1 HL5.out.2 HL6.out.2 HG.out.2.1 HK.out.2.1 HG.out.2.2 HK.out.2.2)
    have fg0 : (w7.alloc (.cells #[.int .i64 now2, .slice A6 l2.length c6, .slice B6 q6.length d6] 35)).cell? ⟨g7, 0, none⟩ = some (.int .i64 now) := HG.out.1.cell 0
    have fg1 : (w7.alloc (.cells #[.int .i64 now2, .slice A6 l2.length c6, .slice B6 q6.length d6] 35)).cell? ⟨g7, 1, none⟩ = some (.slice A5 l.length c5) := HG.out.1.cell 1
    have fg2 : (w7.alloc (.cells #[.int .i64 now2, .slice A6 l2.length c6, .slice B6 q6.length d6] 35)).cell? ⟨g7, 2, none⟩ = some (.slice B5 q5.length d5) := HG.out.1.cell 2
    have fk0 : (w7.alloc (.cells #[.int .i64 now2, .slice A6 l2.length c6, .slice B6 q6.length d6] 35)).cell? ⟨w7.heap.size, 0, none⟩ = some (.int .i64 now2) := HK.out.1.cell 0
    have fk1 : (w7.alloc (.cells #[.int .i64 now2, .slice A6 l2.length c6, .slice B6 q6.length d6] 35)).cell? ⟨w7.heap.size, 1, none⟩ = some (.slice A6 l2.length c6) := HK.out.1.cell 1
    have fk2 : (w7.alloc (.cells #[.int .i64 now2, .slice A6 l2.length c6, .slice B6 q6.length d6] 35)).cell? ⟨w7.heap.size, 2, none⟩ = some (.slice B6 q6.length d6) := HK.out.1.cell 2
    go_wp2_with fail
    generalize w7.alloc (.cells #[.int .i64 now2, .slice A6 l2.length c6, .slice B6 q6.length d6] 35) = w8 at *
    generalize w7.heap.size = g8 at *
    refine HCC.out.mono ?_
    rintro e w9 ⟨he, hbk⟩
    rw [HQ5.out, HQ6.out, ← HQ.out] at he
    subst he
    have HA := Lib.hid ((HA.out.below hbk).below (Below.refl w9.heap.size w9).drew)
    have HE := Lib.hid ((HE.out.below hbk).below (Below.refl w9.heap.size w9).drew)
    have HG := Lib.hid ((HG.out.below hbk).below (Below.refl w9.heap.size w9).drew)
    have HK := Lib.hid ((HK.out.below hbk).below (Below.refl w9.heap.size w9).drew)
    have HW := Lib.hid (bthen (bthen HW.out hbk) (Below.refl w9.heap.size w9).drew)
    clear HCC hbk fg0 fg1 fg2 fk0 fk1 fk2
    have vha0 : w9.cell? ⟨w.heap.size, 0, none⟩ = some (.int .i64 now) := HA.out.1.cell 0
    have vha1 : w9.cell? ⟨w.heap.size, 1, none⟩ = some (.slice A l.length c) := HA.out.1.cell 1
    have vha2 : w9.cell? ⟨w.heap.size, 2, none⟩ = some (.slice B ts.length d) := HA.out.1.cell 2
    have vhe0 : w9.cell? ⟨w.heap.size + 1, 0, none⟩ = some (.int .i64 now2) := HE.out.1.cell 0
    have vhe1 : w9.cell? ⟨w.heap.size + 1, 1, none⟩ = some (.slice A2 l2.length c2) := HE.out.1.cell 1
    have vhe2 : w9.cell? ⟨w.heap.size + 1, 2, none⟩ = some (.slice By ts2.length d2) := HE.out.1.cell 2
    have vhg0 : w9.cell? ⟨g7, 0, none⟩ = some (.int .i64 now) := HG.out.1.cell 0
    have vhg1 : w9.cell? ⟨g7, 1, none⟩ = some (.slice A5 l.length c5) := HG.out.1.cell 1
    have vhg2 : w9.cell? ⟨g7, 2, none⟩ = some (.slice B5 q5.length d5) := HG.out.1.cell 2
    have vhk0 : w9.cell? ⟨g8, 0, none⟩ = some (.int .i64 now2) := HK.out.1.cell 0
    have vhk1 : w9.cell? ⟨g8, 1, none⟩ = some (.slice A6 l2.length c6) := HK.out.1.cell 1
    have vhk2 : w9.cell? ⟨g8, 2, none⟩ = some (.slice B6 q6.length d6) := HK.out.1.cell 2
    go_wp2_with fail
    go_region_held3 (fun W => W.cell? ⟨w.heap.size, 0, none⟩ = some (.int .i64 now) ∧ W.cell? ⟨w.heap.size, 1, none⟩ = some (.slice A l.length c) ∧ W.cell? ⟨w.heap.size, 2, none⟩ = some (.slice B ts.length d) ∧ W.cell? ⟨w.heap.size + 1, 0, none⟩ = some (.int .i64 now2) ∧ W.cell? ⟨w.heap.size + 1, 1, none⟩ = some (.slice A2 l2.length c2) ∧ W.cell? ⟨w.heap.size + 1, 2, none⟩ = some (.slice By ts2.length d2) ∧ W.cell? ⟨g7, 0, none⟩ = some (.int .i64 now) ∧ W.cell? ⟨g7, 1, none⟩ = some (.slice A5 l.length c5) ∧ W.cell? ⟨g7, 2, none⟩ = some (.slice B5 q5.length d5) ∧ W.cell? ⟨g8, 0, none⟩ = some (.int .i64 now2) ∧ W.cell? ⟨g8, 1, none⟩ = some (.slice A6 l2.length c6) ∧ W.cell? ⟨g8, 2, none⟩ = some (.slice B6 q6.length d6))
      (first | assumption | go_keep)
      (first
        | (go_at_call 15
           refine (eqHall_same now A5 Ar l c5 cr B5 Br q5 qr d5 dr _ HLX.out.1 HL5.out.1 HL5.out.2 HQR.out HG.out.2.1 HX.out.1 HG.out.2.2 HX.out.2).mono ?_
           rintro e wk ⟨rfl, hbk⟩
           have HA := Lib.hid (HA.out.below hbk)
           have HE := Lib.hid (HE.out.below hbk)
           have HG := Lib.hid (HG.out.below hbk)
           have HK := Lib.hid (HK.out.below hbk)
           have HW := Lib.hid (bthen HW.out hbk)
           have hkk : wk.cell? ⟨w.heap.size, 0, none⟩ = some (.int .i64 now) ∧ wk.cell? ⟨w.heap.size, 1, none⟩ = some (.slice A l.length c) ∧ wk.cell? ⟨w.heap.size, 2, none⟩ = some (.slice B ts.length d) ∧ wk.cell? ⟨w.heap.size + 1, 0, none⟩ = some (.int .i64 now2) ∧ wk.cell? ⟨w.heap.size + 1, 1, none⟩ = some (.slice A2 l2.length c2) ∧ wk.cell? ⟨w.heap.size + 1, 2, none⟩ = some (.slice By ts2.length d2) ∧ wk.cell? ⟨g7, 0, none⟩ = some (.int .i64 now) ∧ wk.cell? ⟨g7, 1, none⟩ = some (.slice A5 l.length c5) ∧ wk.cell? ⟨g7, 2, none⟩ = some (.slice B5 q5.length d5) ∧ wk.cell? ⟨g8, 0, none⟩ = some (.int .i64 now2) ∧ wk.cell? ⟨g8, 1, none⟩ = some (.slice A6 l2.length c6) ∧ wk.cell? ⟨g8, 2, none⟩ = some (.slice B6 q6.length d6) := ⟨HA.out.1.cell 0, HA.out.1.cell 1, HA.out.1.cell 2, HE.out.1.cell 0, HE.out.1.cell 1, HE.out.1.cell 2, HG.out.1.cell 0, HG.out.1.cell 1, HG.out.1.cell 2, HK.out.1.cell 0, HK.out.1.cell 1, HK.out.1.cell 2⟩
           clear hbk)
        | (go_at_call 13
           refine (toHall_any A l c now B ts d _ HLX.out.1 HLX.out.2.1 HLX.out.2.2 HA.out.2.1 HA.out.2.2).mono ?_
           rintro e wk ⟨Ar, cr, Br, dr, qr, rfl, hqr, hov, hot, hbk⟩
           have HQR := Lib.hid (show tkS qr = tkS q5 from by rw [hqr, HCX.out, HQ5.out])
           have HX := Lib.hid (⟨hov.readsH, hot.1⟩ : _ ∧ _)
           have HA := Lib.hid (HA.out.below hbk)
           have HE := Lib.hid (HE.out.below hbk)
           have HG := Lib.hid (HG.out.below hbk)
           have HK := Lib.hid (HK.out.below hbk)
           have HW := Lib.hid (bthen HW.out hbk)
           have hkk : wk.cell? ⟨w.heap.size, 0, none⟩ = some (.int .i64 now) ∧ wk.cell? ⟨w.heap.size, 1, none⟩ = some (.slice A l.length c) ∧ wk.cell? ⟨w.heap.size, 2, none⟩ = some (.slice B ts.length d) ∧ wk.cell? ⟨w.heap.size + 1, 0, none⟩ = some (.int .i64 now2) ∧ wk.cell? ⟨w.heap.size + 1, 1, none⟩ = some (.slice A2 l2.length c2) ∧ wk.cell? ⟨w.heap.size + 1, 2, none⟩ = some (.slice By ts2.length d2) ∧ wk.cell? ⟨g7, 0, none⟩ = some (.int .i64 now) ∧ wk.cell? ⟨g7, 1, none⟩ = some (.slice A5 l.length c5) ∧ wk.cell? ⟨g7, 2, none⟩ = some (.slice B5 q5.length d5) ∧ wk.cell? ⟨g8, 0, none⟩ = some (.int .i64 now2) ∧ wk.cell? ⟨g8, 1, none⟩ = some (.slice A6 l2.length c6) ∧ wk.cell? ⟨g8, 2, none⟩ = some (.slice B6 q6.length d6) := ⟨HA.out.1.cell 0, HA.out.1.cell 1, HA.out.1.cell 2, HE.out.1.cell 0, HE.out.1.cell 1, HE.out.1.cell 2, HG.out.1.cell 0, HG.out.1.cell 1, HG.out.1.cell 2, HK.out.1.cell 0, HK.out.1.cell 1, HK.out.1.cell 2⟩
           clear hbk hqr hov hot))
    all_goals
      clear HX HQR vha0 vha1 vha2 vhe0 vhe1 vhe2 vhg0 vhg1 vhg2 vhk0 vhk1 vhk2
      have HA := Lib.hid (HA.out.below (Below.refl wk.heap.size wk).drew)
      have HE := Lib.hid (HE.out.below (Below.refl wk.heap.size wk).drew)
      have HG := Lib.hid (HG.out.below (Below.refl wk.heap.size wk).drew)
      have HK := Lib.hid (HK.out.below (Below.refl wk.heap.size wk).drew)
      have HW := Lib.hid (bthen HW.out (Below.refl wk.heap.size wk).drew)
      have uha0 : wk.cell? ⟨w.heap.size, 0, none⟩ = some (.int .i64 now) := HA.out.1.cell 0
      have uha1 : wk.cell? ⟨w.heap.size, 1, none⟩ = some (.slice A l.length c) := HA.out.1.cell 1
      have uha2 : wk.cell? ⟨w.heap.size, 2, none⟩ = some (.slice B ts.length d) := HA.out.1.cell 2
      have uhe0 : wk.cell? ⟨w.heap.size + 1, 0, none⟩ = some (.int .i64 now2) := HE.out.1.cell 0
      have uhe1 : wk.cell? ⟨w.heap.size + 1, 1, none⟩ = some (.slice A2 l2.length c2) := HE.out.1.cell 1
      have uhe2 : wk.cell? ⟨w.heap.size + 1, 2, none⟩ = some (.slice By ts2.length d2) := HE.out.1.cell 2
      have uhg0 : wk.cell? ⟨g7, 0, none⟩ = some (.int .i64 now) := HG.out.1.cell 0
      have uhg1 : wk.cell? ⟨g7, 1, none⟩ = some (.slice A5 l.length c5) := HG.out.1.cell 1
      have uhg2 : wk.cell? ⟨g7, 2, none⟩ = some (.slice B5 q5.length d5) := HG.out.1.cell 2
      have uhk0 : wk.cell? ⟨g8, 0, none⟩ = some (.int .i64 now2) := HK.out.1.cell 0
      have uhk1 : wk.cell? ⟨g8, 1, none⟩ = some (.slice A6 l2.length c6) := HK.out.1.cell 1
      have uhk2 : wk.cell? ⟨g8, 2, none⟩ = some (.slice B6 q6.length d6) := HK.out.1.cell 2
      go_wp2_with fail
      go_region_held3 (fun W => W.cell? ⟨w.heap.size, 0, none⟩ = some (.int .i64 now) ∧ W.cell? ⟨w.heap.size, 1, none⟩ = some (.slice A l.length c) ∧ W.cell? ⟨w.heap.size, 2, none⟩ = some (.slice B ts.length d) ∧ W.cell? ⟨w.heap.size + 1, 0, none⟩ = some (.int .i64 now2) ∧ W.cell? ⟨w.heap.size + 1, 1, none⟩ = some (.slice A2 l2.length c2) ∧ W.cell? ⟨w.heap.size + 1, 2, none⟩ = some (.slice By ts2.length d2) ∧ W.cell? ⟨g7, 0, none⟩ = some (.int .i64 now) ∧ W.cell? ⟨g7, 1, none⟩ = some (.slice A5 l.length c5) ∧ W.cell? ⟨g7, 2, none⟩ = some (.slice B5 q5.length d5) ∧ W.cell? ⟨g8, 0, none⟩ = some (.int .i64 now2) ∧ W.cell? ⟨g8, 1, none⟩ = some (.slice A6 l2.length c6) ∧ W.cell? ⟨g8, 2, none⟩ = some (.slice B6 q6.length d6))
        (first | assumption | go_keep)
        (first
          | (go_at_call 15
             refine (eqHall_same now2 A6 Ar l2 c6 cr B6 Br q6 qr d6 dr _ HLY.out.1 HL6.out.1 HL6.out.2 HQR.out HK.out.2.1 HX.out.1 HK.out.2.2 HX.out.2).mono ?_
             rintro e wk ⟨rfl, hbk⟩
             have HA := Lib.hid (HA.out.below hbk)
             have HE := Lib.hid (HE.out.below hbk)
             have HG := Lib.hid (HG.out.below hbk)
             have HK := Lib.hid (HK.out.below hbk)
             have HW := Lib.hid (bthen HW.out hbk)
             have hkk : wk.cell? ⟨w.heap.size, 0, none⟩ = some (.int .i64 now) ∧ wk.cell? ⟨w.heap.size, 1, none⟩ = some (.slice A l.length c) ∧ wk.cell? ⟨w.heap.size, 2, none⟩ = some (.slice B ts.length d) ∧ wk.cell? ⟨w.heap.size + 1, 0, none⟩ = some (.int .i64 now2) ∧ wk.cell? ⟨w.heap.size + 1, 1, none⟩ = some (.slice A2 l2.length c2) ∧ wk.cell? ⟨w.heap.size + 1, 2, none⟩ = some (.slice By ts2.length d2) ∧ wk.cell? ⟨g7, 0, none⟩ = some (.int .i64 now) ∧ wk.cell? ⟨g7, 1, none⟩ = some (.slice A5 l.length c5) ∧ wk.cell? ⟨g7, 2, none⟩ = some (.slice B5 q5.length d5) ∧ wk.cell? ⟨g8, 0, none⟩ = some (.int .i64 now2) ∧ wk.cell? ⟨g8, 1, none⟩ = some (.slice A6 l2.length c6) ∧ wk.cell? ⟨g8, 2, none⟩ = some (.slice B6 q6.length d6) := ⟨HA.out.1.cell 0, HA.out.1.cell 1, HA.out.1.cell 2, HE.out.1.cell 0, HE.out.1.cell 1, HE.out.1.cell 2, HG.out.1.cell 0, HG.out.1.cell 1, HG.out.1.cell 2, HK.out.1.cell 0, HK.out.1.cell 1, HK.out.1.cell 2⟩
             clear hbk)
          | (go_at_call 13
             refine (toHall_any A2 l2 c2 now2 By ts2 d2 _ HLY.out.1 HLY.out.2.1 HLY.out.2.2 HE.out.2.1 HE.out.2.2).mono ?_
             rintro e wk ⟨Ar, cr, Br, dr, qr, rfl, hqr, hov, hot, hbk⟩
             have HQR := Lib.hid (show tkS qr = tkS q6 from by rw [hqr, HCY.out, HQ6.out])
             have HX := Lib.hid (⟨hov.readsH, hot.1⟩ : _ ∧ _)
             have HA := Lib.hid (HA.out.below hbk)
             have HE := Lib.hid (HE.out.below hbk)
             have HG := Lib.hid (HG.out.below hbk)
             have HK := Lib.hid (HK.out.below hbk)
             have HW := Lib.hid (bthen HW.out hbk)
             have hkk : wk.cell? ⟨w.heap.size, 0, none⟩ = some (.int .i64 now) ∧ wk.cell? ⟨w.heap.size, 1, none⟩ = some (.slice A l.length c) ∧ wk.cell? ⟨w.heap.size, 2, none⟩ = some (.slice B ts.length d) ∧ wk.cell? ⟨w.heap.size + 1, 0, none⟩ = some (.int .i64 now2) ∧ wk.cell? ⟨w.heap.size + 1, 1, none⟩ = some (.slice A2 l2.length c2) ∧ wk.cell? ⟨w.heap.size + 1, 2, none⟩ = some (.slice By ts2.length d2) ∧ wk.cell? ⟨g7, 0, none⟩ = some (.int .i64 now) ∧ wk.cell? ⟨g7, 1, none⟩ = some (.slice A5 l.length c5) ∧ wk.cell? ⟨g7, 2, none⟩ = some (.slice B5 q5.length d5) ∧ wk.cell? ⟨g8, 0, none⟩ = some (.int .i64 now2) ∧ wk.cell? ⟨g8, 1, none⟩ = some (.slice A6 l2.length c6) ∧ wk.cell? ⟨g8, 2, none⟩ = some (.slice B6 q6.length d6) := ⟨HA.out.1.cell 0, HA.out.1.cell 1, HA.out.1.cell 2, HE.out.1.cell 0, HE.out.1.cell 1, HE.out.1.cell 2, HG.out.1.cell 0, HG.out.1.cell 1, HG.out.1.cell 2, HK.out.1.cell 0, HK.out.1.cell 1, HK.out.1.cell 2⟩
             clear hbk hqr hov hot))
      all_goals
        have hend := HW.out
        go_wp2
        go_ret
        exact ⟨rfl, hend⟩
theorem own0 : ownKnob Try.prog.godebug = none := by kernel_rfl
theorem laidOut0 : laidOutB Try.prog = true := by kernel_rfl
set_option maxRecDepth 100000 in
theorem exactHallSame_lifted (os : Os) (started : os.Started) (H : Type) (enc : TypeId × Value → H) :
    ReturnsInHanded {} Try.checked os 3 .any (Rows.fnExactHallSameSpec.pre6 enc Try.prog Try.f3 Rows.fnExactHallSameRow.domain false) (Rows.fnExactHallSameSpec.post enc Try.prog Try.f3 false true false false) := by
  refine returnsInHanded_of_change (C := Try.checked) own0 started (by kernel_rfl) Try.func3
    (ChangeSpec.witness6 (enc := enc) (C := Try.checked) false ⟨#[], #[.agg #[.int .i64 0, .slice none 0 0, .slice none 0 0], .agg #[.int .i64 0, .slice none 0 0, .slice none 0 0]], []⟩ 8 (by kernel_rfl) (by kernel_rfl) (by kernel_rfl) (by kernel_rfl)) ?_
  intro W base args ds gs before hval0 hW hcnd _
  have hval : ∀ (j : Nat) t v, Try.f3.params[j]? = some t → args[j]? = some v → Value.okWide Try.prog W .any base t v := hval0
  have hW' := hW
  obtain ⟨p, q, hA0, hV, rfl, hfz, hnd⟩ := hW
  have hA : DataW.TrodAll enc Try.prog W 0 (fun _ => true) true Try.f3.params.toList args.toList ds p := hA0
  rw [Try.params3] at hA hval
  obtain ⟨v0, vs0, d0, ds0, p0, q0, hargs, rfl, rfl, h0, r0⟩ := trodAll_cons hA
  obtain ⟨v1, vs1, d1, ds1, p1, q1, rfl, rfl, rfl, h1, r1⟩ := trodAll_cons r0
  obtain ⟨rfl, rfl, rfl⟩ := trodAll_nil r1
  obtain rfl : args = #[v0, v1] := by cases args; simp_all
  obtain ⟨rfl, rfl⟩ := trodVars_none hV
  have k0 := h0
  have k1 := h1
  have lt0 : ∀ x ∈ p0, x.block < W.heap.size := by obtain ⟨m, hm⟩ := k0; exact DataW.trod_lt m _ _ _ hm
  have lt1 : ∀ x ∈ p1, x.block < W.heap.size := by obtain ⟨m, hm⟩ := k1; exact DataW.trod_lt m _ _ _ hm
  obtain ⟨now, A, l, c, B, ts, d, rfl, hf, hV, hn, hg, hT⟩ := open_hall (hval 0 27 v0 rfl rfl) h0
  obtain ⟨now2, A2, l2, c2, By, ts2, d2, rfl, hf2, hV2, hn2, hg2, hT2⟩ := open_hall (hval 1 27 v1 rfl rfl) h1
  clear hA0 hval0
  refine (lawHallSame now now2 A A2 l l2 c c2 B By ts ts2 d d2 W hf hf2 hn hn2 hg hg2 hV hV2 hT hT2).mono fun e W' ⟨he, bel⟩ => ?_
  subst he
  exact ⟨_, rfl, _, _, _, [], _, [], hW', trodAll_mk1 (shut_bool Try.underlying4 _), (trodAll_cons_mk (Below.trod laidOut0 (by kernel_rfl) (of_decide_eq_true (by kernel_rfl)) k0 bel lt0) (trodAll_cons_mk (Below.trod laidOut0 (by kernel_rfl) (of_decide_eq_true (by kernel_rfl)) k1 bel lt1) trodAll_mk0)), rfl, bel.frame _, fun h => by cases h⟩

theorem exactHallSame_holds : Rows.FnExactHallSameSaid :=
  OpenClaim.holds_of_wide 3 Try.f3 rfl rfl rfl rfl rfl rfl rfl ⟨rfl, rfl, rfl, rfl, rfl⟩ rfl rfl rfl rfl rfl (by kernel_rfl) Try.func3 (by kernel_rfl)
    (of_decide_eq_true (by kernel_rfl)) (by unfold Func.isWrapper; first | (rw [if_pos (by decide +kernel)]; kernel_rfl) | (rw [if_neg (by decide +kernel)]; exact ⟨rfl, rfl⟩))
    (fun os started H enc _ => exactHallSame_lifted os started H enc)
#print axioms exactHallSame_holds
end Go.Proofs.Yteanjfjlmpgnnaa
