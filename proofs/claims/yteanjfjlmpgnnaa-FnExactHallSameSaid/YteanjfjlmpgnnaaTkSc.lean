/- Whether two halls are one: the program's and the reference's. -/
import Derived.Test.YteanjfjlmpgnnaaTkSb
namespace Go.Proofs.Yteanjfjlmpgnnaa
open Go.RowKit
theorem take_all {α : Type} {a b : List α} {k : Nat} (ha : a.length = k) (hb : b.length = k) (h : a.take k = b.take k) : a = b := by
  rwa [← ha, List.take_length, ha, ← hb, List.take_length] at h
set_option maxRecDepth 100000 in
set_option maxHeartbeats 3000000 in
theorem equalT_any (A A2 : Option Addr) (ts ts2 : List Tk) (c c2 : Nat) (w : World) (hn : ts.length ≤ 1048576) (hn2 : ts2.length ≤ 1048576) (hl1 : ∀ t ∈ ts, t.ws.2.2.length ≤ 1048576 ∧ t.ns.2.2.length ≤ 1048576) (hl2 : ∀ t ∈ ts2, t.ws.2.2.length ≤ 1048576 ∧ t.ns.2.2.length ≤ 1048576) (hS : SlT w A ts) (hS2 : SlT w A2 ts2) :
    Calls Try.prog 50 #[.slice A ts.length c, .slice A2 ts2.length c2, .func (.func 51) #[] #[]] w fun e w' => e = .returned (.bool (eqC (tkS ts) (tkS ts2))) ∧ Below w.heap.size w w' := by
  have HL1 := Lib.hid hl1
  have HL2 := Lib.hid hl2
  clear hl1 hl2
  by_cases hlt : ts.length = ts2.length
  case neg =>
    have hlb : (((ts.length : Int) != (ts2.length : Int)) = true) := by simp; omega
    have HL := Lib.hid hlt
    clear hlt
    go_enter Try.func50, Try.ntmps50
    go_wp2
    go_ret
    exact ⟨ret_bool (eqC_no (fun h => HL.out (by rw [← tkS_len ts, h, tkS_len]))).symm, Below.refl _ _⟩
  have hlb : (((ts.length : Int) != (ts2.length : Int)) = false) := by simp [hlt]
  have HL := Lib.hid hlt
  clear hlt
  go_enter Try.func50, Try.ntmps50
  go_wp2
  go_loopw [17] (fun i wr => ∃ k : Nat, k ≤ ts.length ∧ i = .int .i64 k ∧ Hid ((tkS ts).take k = (tkS ts2).take k) ∧ Below w.heap.size w wr) (fun i _ => ts.length - (intOf i).toNat)
  case atStart => exact ⟨0, by omega, rfl, Lib.hid rfl, Below.refl _ _⟩
  case round =>
    obtain ⟨k, hk, rfl, HE, hb⟩ := hrel
    by_cases hlt2 : k < ts.length
    · have h2 : k < ts2.length := HL.out ▸ hlt2
      have hSw := hS.below hb
      have hSw2 := hS2.below hb
      obtain ⟨b, o, rfl, hbl, p0_, p1_, p2_, p3_, p4_, p5_, p6_, p7_⟩ := Sl.at8 hSw.1 hlt2
      obtain ⟨b2, o2, rfl, hbl2, q0_, q1_, q2_, q3_, q4_, q5_, q6_, q7_⟩ := Sl.at8 hSw2.1 h2
      obtain ⟨hw1, hn1⟩ := hSw.2 ts[k] (by simp)
      obtain ⟨hw2, hn2_⟩ := hSw2.2 ts2[k] (by simp)
      obtain ⟨hx1, hx2⟩ := HL1.out ts[k] (by simp)
      obtain ⟨hy1, hy2⟩ := HL2.out ts2[k] (by simp)
      have HX := Lib.hid (show (tkS ts)[k]'(by rw [tkS_len]; exact hlt2) = tkC ts[k] by simp [tkS])
      have HY := Lib.hid (show (tkS ts2)[k]'(by rw [tkS_len]; exact h2) = tkC ts2[k] by simp [tkS])
      generalize ts[k] = x at *
      generalize ts2[k] = y at *
      obtain ⟨on, bad, at_, ⟨Aw, cw, ws⟩, ⟨An, cn, ns⟩, skip, gone, inb⟩ := x
      obtain ⟨on2, bad2, at2, ⟨Aw2, cw2, ws2⟩, ⟨An2, cn2, ns2⟩, skip2, gone2, inb2⟩ := y
      simp only at p0_ p1_ p2_ p3_ p4_ p5_ p6_ p7_ q0_ q1_ q2_ q3_ q4_ q5_ q6_ q7_ hw1 hn1 hw2 hn2_ hx1 hx2 hy1 hy2
      have HX := Lib.hid (show (tkS ts)[k]'(by rw [tkS_len]; exact hlt2) = (on, bad, at_, ws, ns, skip, gone, inb) from HX.out)
      have HY := Lib.hid (show (tkS ts2)[k]'(by rw [tkS_len]; exact h2) = (on2, bad2, at2, ws2, ns2, skip2, gone2, inb2) from HY.out)
      have hki : (k : Int) < (ts.length : Int) := by omega
      have hki2 : (k : Int) < (ts2.length : Int) := by omega
      have hbn := ((Below.refl wr.heap.size wr).alloc (Nat.le_refl _) (.cells #[.bool on, .bool bad, .int .i64 at_, .slice Aw ws.length cw, .slice An ns.length cn, .bool skip, .bool gone, .string inb] 86)).alloc (by simp) (.cells #[.bool on2, .bool bad2, .int .i64 at2, .slice Aw2 ws2.length cw2, .slice An2 ns2.length cn2, .bool skip2, .bool gone2, .string inb2] 86)
      have HC := Lib.hid (implTalkSame_any on on2 bad bad2 at_ at2 Aw Aw2 cw cw2 ws ws2 An An2 cn cn2 ns ns2 skip skip2 gone gone2 inb inb2 ((wr.alloc (.cells #[.bool on, .bool bad, .int .i64 at_, .slice Aw ws.length cw, .slice An ns.length cn, .bool skip, .bool gone, .string inb] 86)).alloc (.cells #[.bool on2, .bool bad2, .int .i64 at2, .slice Aw2 ws2.length cw2, .slice An2 ns2.length cn2, .bool skip2, .bool gone2, .string inb2] 86)) hx1 hy1 hx2 hy2 (hw1.below hbn) (hw2.below hbn) (hn1.below hbn) (hn2_.below hbn))
      have hA1 := (Blk.new wr 86 #[.bool on, .bool bad, .int .i64 at_, .slice Aw ws.length cw, .slice An ns.length cn, .bool skip, .bool gone, .string inb]).alloc (.cells #[.bool on2, .bool bad2, .int .i64 at2, .slice Aw2 ws2.length cw2, .slice An2 ns2.length cn2, .bool skip2, .bool gone2, .string inb2] 86)
      have m0 : (wr.alloc (.cells #[.bool on, .bool bad, .int .i64 at_, .slice Aw ws.length cw, .slice An ns.length cn, .bool skip, .bool gone, .string inb] 86)).cell? ⟨b2, o2 + k * 8, none⟩ = some (.bool on2) := (((Below.refl wr.heap.size wr).alloc (Nat.le_refl _) (.cells #[.bool on, .bool bad, .int .i64 at_, .slice Aw ws.length cw, .slice An ns.length cn, .bool skip, .bool gone, .string inb] 86)).cell (by simpa using hbl2)).trans q0_
      have m1 : (wr.alloc (.cells #[.bool on, .bool bad, .int .i64 at_, .slice Aw ws.length cw, .slice An ns.length cn, .bool skip, .bool gone, .string inb] 86)).cell? ⟨b2, o2 + k * 8 + 1, none⟩ = some (.bool bad2) := (((Below.refl wr.heap.size wr).alloc (Nat.le_refl _) (.cells #[.bool on, .bool bad, .int .i64 at_, .slice Aw ws.length cw, .slice An ns.length cn, .bool skip, .bool gone, .string inb] 86)).cell (by simpa using hbl2)).trans q1_
      have m2 : (wr.alloc (.cells #[.bool on, .bool bad, .int .i64 at_, .slice Aw ws.length cw, .slice An ns.length cn, .bool skip, .bool gone, .string inb] 86)).cell? ⟨b2, o2 + k * 8 + 2, none⟩ = some (.int .i64 at2) := (((Below.refl wr.heap.size wr).alloc (Nat.le_refl _) (.cells #[.bool on, .bool bad, .int .i64 at_, .slice Aw ws.length cw, .slice An ns.length cn, .bool skip, .bool gone, .string inb] 86)).cell (by simpa using hbl2)).trans q2_
      have m3 : (wr.alloc (.cells #[.bool on, .bool bad, .int .i64 at_, .slice Aw ws.length cw, .slice An ns.length cn, .bool skip, .bool gone, .string inb] 86)).cell? ⟨b2, o2 + k * 8 + 3, none⟩ = some (.slice Aw2 ws2.length cw2) := (((Below.refl wr.heap.size wr).alloc (Nat.le_refl _) (.cells #[.bool on, .bool bad, .int .i64 at_, .slice Aw ws.length cw, .slice An ns.length cn, .bool skip, .bool gone, .string inb] 86)).cell (by simpa using hbl2)).trans q3_
      have m4 : (wr.alloc (.cells #[.bool on, .bool bad, .int .i64 at_, .slice Aw ws.length cw, .slice An ns.length cn, .bool skip, .bool gone, .string inb] 86)).cell? ⟨b2, o2 + k * 8 + 4, none⟩ = some (.slice An2 ns2.length cn2) := (((Below.refl wr.heap.size wr).alloc (Nat.le_refl _) (.cells #[.bool on, .bool bad, .int .i64 at_, .slice Aw ws.length cw, .slice An ns.length cn, .bool skip, .bool gone, .string inb] 86)).cell (by simpa using hbl2)).trans q4_
      have m5 : (wr.alloc (.cells #[.bool on, .bool bad, .int .i64 at_, .slice Aw ws.length cw, .slice An ns.length cn, .bool skip, .bool gone, .string inb] 86)).cell? ⟨b2, o2 + k * 8 + 5, none⟩ = some (.bool skip2) := (((Below.refl wr.heap.size wr).alloc (Nat.le_refl _) (.cells #[.bool on, .bool bad, .int .i64 at_, .slice Aw ws.length cw, .slice An ns.length cn, .bool skip, .bool gone, .string inb] 86)).cell (by simpa using hbl2)).trans q5_
      have m6 : (wr.alloc (.cells #[.bool on, .bool bad, .int .i64 at_, .slice Aw ws.length cw, .slice An ns.length cn, .bool skip, .bool gone, .string inb] 86)).cell? ⟨b2, o2 + k * 8 + 6, none⟩ = some (.bool gone2) := (((Below.refl wr.heap.size wr).alloc (Nat.le_refl _) (.cells #[.bool on, .bool bad, .int .i64 at_, .slice Aw ws.length cw, .slice An ns.length cn, .bool skip, .bool gone, .string inb] 86)).cell (by simpa using hbl2)).trans q6_
      have m7 : (wr.alloc (.cells #[.bool on, .bool bad, .int .i64 at_, .slice Aw ws.length cw, .slice An ns.length cn, .bool skip, .bool gone, .string inb] 86)).cell? ⟨b2, o2 + k * 8 + 7, none⟩ = some (.string inb2) := (((Below.refl wr.heap.size wr).alloc (Nat.le_refl _) (.cells #[.bool on, .bool bad, .int .i64 at_, .slice Aw ws.length cw, .slice An ns.length cn, .bool skip, .bool gone, .string inb] 86)).cell (by simpa using hbl2)).trans q7_
      have hbt := bthen hb hbn
      clear hS hS2 hSw hSw2 hw1 hn1 hw2 hn2_ hbn hA1 hx1 hx2 hy1 hy2
      by_cases hxy : (on, bad, at_, ws, ns, skip, gone, inb) = (on2, bad2, at2, ws2, ns2, skip2, gone2, inb2)
      · rw [eqC_yes hxy] at HC
        have HXY := Lib.hid hxy
        clear hxy
        go_wp2_with fail
        refine HC.out.mono ?_
        rintro e w2 ⟨rfl, hb2⟩
        have hbw := bthen hbt hb2
        clear HC hb2 hbt hb m0 m1 m2 m3 m4 m5 m6 m7 p0_ p1_ p2_ p3_ p4_ p5_ p6_ p7_ q0_ q1_ q2_ q3_ q4_ q5_ q6_ q7_
        go_wp2
        go_roundw
        case rel => exact ⟨k+1, by omega, by go_num, Lib.hid (by rw [List.take_succ_eq_append_getElem (by rw [tkS_len]; exact hlt2), List.take_succ_eq_append_getElem (by rw [tkS_len]; exact h2), HE.out, HX.out, HY.out, HXY.out]), hbw⟩
        case measure => simp [intOf]; omega
      · rw [eqC_no hxy] at HC
        have HXY := Lib.hid hxy
        clear hxy
        go_wp2_with fail
        refine HC.out.mono ?_
        rintro e w2 ⟨rfl, hb2⟩
        have hbw := bthen hbt hb2
        clear HC hb2 hbt hb m0 m1 m2 m3 m4 m5 m6 m7 p0_ p1_ p2_ p3_ p4_ p5_ p6_ p7_ q0_ q1_ q2_ q3_ q4_ q5_ q6_ q7_
        go_wp2
        go_ret
        exact ⟨ret_bool (eqC_no (list_ne_at (by rw [tkS_len]; exact hlt2) (by rw [tkS_len]; exact h2) (by rw [HX.out, HY.out]; exact HXY.out))).symm, hbw⟩
    · obtain rfl : k = ts.length := by omega
      have HEQ := Lib.hid (take_all (tkS_len ts) (by rw [tkS_len, HL.out]) HE.out)
      clear HE
      go_wp2
      go_ret
      exact ⟨ret_bool (eqC_yes HEQ.out).symm, hb⟩
set_option maxRecDepth 100000 in
set_option maxHeartbeats 3000000 in
theorem implHallSame_any (now now2 : Int) (A A2 : Option Addr) (l l2 : List Ver) (c c2 : Nat) (B B2_ : Option Addr) (ts ts2 : List Tk) (d d2 : Nat) (w : World) (hv : l.length ≤ 1048576) (hv2 : l2.length ≤ 1048576) (hn : ts.length ≤ 1048576) (hn2 : ts2.length ≤ 1048576) (hl1 : ∀ t ∈ ts, t.ws.2.2.length ≤ 1048576 ∧ t.ns.2.2.length ≤ 1048576) (hl2 : ∀ t ∈ ts2, t.ws.2.2.length ≤ 1048576 ∧ t.ns.2.2.length ≤ 1048576) (hV : Sl encVer 4 w A l) (hV2 : Sl encVer 4 w A2 l2) (hS : SlT w B ts) (hS2 : SlT w B2_ ts2) :
    Calls Try.prog 14 #[.agg #[.int .i64 now, .slice A l.length c, .slice B ts.length d], .agg #[.int .i64 now2, .slice A2 l2.length c2, .slice B2_ ts2.length d2]] w fun e w' => e = .returned (.bool (eqC (now, l, tkS ts) (now2, l2, tkS ts2))) ∧ Below w.heap.size w w' := by
  have hb0 := ((Below.refl w.heap.size w).alloc (Nat.le_refl _) (.cells #[.int .i64 now, .slice A l.length c, .slice B ts.length d] 35)).alloc (by simp) (.cells #[.int .i64 now2, .slice A2 l2.length c2, .slice B2_ ts2.length d2] 35)
  have hA1 := (Blk.new w 35 #[.int .i64 now, .slice A l.length c, .slice B ts.length d]).alloc (.cells #[.int .i64 now2, .slice A2 l2.length c2, .slice B2_ ts2.length d2] 35)
  have hA2 := Blk.new (w.alloc (.cells #[.int .i64 now, .slice A l.length c, .slice B ts.length d] 35)) 35 #[.int .i64 now2, .slice A2 l2.length c2, .slice B2_ ts2.length d2]
  simp only [World.size_alloc] at hA2
  have HI := Lib.hid (show B2 35 w #[.int .i64 now, .slice A l.length c, .slice B ts.length d] #[.int .i64 now2, .slice A2 l2.length c2, .slice B2_ ts2.length d2] ((w.alloc (.cells #[.int .i64 now, .slice A l.length c, .slice B ts.length d] 35)).alloc (.cells #[.int .i64 now2, .slice A2 l2.length c2, .slice B2_ ts2.length d2] 35)) from ⟨hA1, hA2, hb0⟩)
  have HC := Lib.hid (implVersSame_any now now2 A A2 l l2 c c2 _ hv hv2 (hV.below hb0) (hV2.below hb0))
  have HS := Lib.hid (hS.below hb0)
  have HS2 := Lib.hid (hS2.below hb0)
  have HL1 := Lib.hid hl1
  have HL2 := Lib.hid hl2
  clear hA1 hA2 hb0 hV hV2 hS hS2 hl1 hl2
  by_cases hv_ : (now, l) = (now2, l2)
  case neg =>
    rw [eqC_no hv_] at HC
    have HV := Lib.hid hv_
    clear hv_
    go_enter Try.func14, Try.ntmps14
    go_wp2_with fail
    generalize (w.alloc (.cells #[.int .i64 now, .slice A l.length c, .slice B ts.length d] 35)).alloc (.cells #[.int .i64 now2, .slice A2 l2.length c2, .slice B2_ ts2.length d2] 35) = w0 at *
    refine HC.out.mono ?_
    rintro e w1 ⟨rfl, hb1⟩
    have HI := Lib.hid (HI.out.below hb1)
    have HS := Lib.hid (HS.out.below hb1)
    have HS2 := Lib.hid (HS2.out.below hb1)
    clear HC hb1
    have hbe := HI.out.2.2
    go_wp2
    go_ret
    exact ⟨ret_bool (eqC_no (fun h => HV.out (by simp only [Prod.mk.injEq] at h ⊢; exact ⟨h.1, h.2.1⟩))).symm, hbe⟩
  rw [eqC_yes hv_] at HC
  have HV := Lib.hid hv_
  clear hv_
  go_enter Try.func14, Try.ntmps14
  go_wp2_with fail
  generalize (w.alloc (.cells #[.int .i64 now, .slice A l.length c, .slice B ts.length d] 35)).alloc (.cells #[.int .i64 now2, .slice A2 l2.length c2, .slice B2_ ts2.length d2] 35) = w0 at *
  refine HC.out.mono ?_
  rintro e w1 ⟨rfl, hb1⟩
  have HI := Lib.hid (HI.out.below hb1)
  have HS := Lib.hid (HS.out.below hb1)
  have HS2 := Lib.hid (HS2.out.below hb1)
  clear HC hb1
  have r2 : w1.cell? ⟨w.heap.size, 2, none⟩ = some (.slice B ts.length d) := HI.out.1.cell 2
  have s2 : w1.cell? ⟨w.heap.size + 1, 2, none⟩ = some (.slice B2_ ts2.length d2) := HI.out.2.1.cell 2
  have HC := Lib.hid (equalT_any B B2_ ts ts2 d d2 w1 hn hn2 HL1.out HL2.out HS.out HS2.out)
  obtain ⟨q, hq⟩ : ∃ q, q = eqC (tkS ts) (tkS ts2) := ⟨_, rfl⟩
  rw [← hq] at HC
  have HQ := Lib.hid (show q = eqC (now, l, tkS ts) (now2, l2, tkS ts2) from by
    have := HV.out
    simp only [Prod.mk.injEq] at this
    rw [this.1, this.2, eqC_snd, eqC_snd]; exact hq)
  clear hq
  go_wp2_with fail
  refine HC.out.mono ?_
  rintro e w2 ⟨rfl, hb2⟩
  have hbe := bthen HI.out.2.2 hb2
  clear HC hb2
  go_wp2
  all_goals
    go_ret
    exact ⟨ret_bool HQ.out, hbe⟩
set_option maxRecDepth 100000 in
set_option maxHeartbeats 3000000 in
theorem specHallSame_any (now now2 : Int) (A A2 : Option Addr) (l l2 : List Ver) (c c2 : Nat) (B B2_ : Option Addr) (ts ts2 : List Tk) (d d2 : Nat) (w : World) (hv : l.length ≤ 1048576) (hv2 : l2.length ≤ 1048576) (hn : ts.length ≤ 1048576) (hn2 : ts2.length ≤ 1048576) (hl1 : ∀ t ∈ ts, t.ws.2.2.length ≤ 1048576 ∧ t.ns.2.2.length ≤ 1048576) (hl2 : ∀ t ∈ ts2, t.ws.2.2.length ≤ 1048576 ∧ t.ns.2.2.length ≤ 1048576) (hV : Sl encVer 4 w A l) (hV2 : Sl encVer 4 w A2 l2) (hS : SlT w B ts) (hS2 : SlT w B2_ ts2) :
    Calls Try.prog 12 #[.agg #[.int .i64 now, .slice A l.length c, .slice B ts.length d], .agg #[.int .i64 now2, .slice A2 l2.length c2, .slice B2_ ts2.length d2]] w fun e w' => e = .returned (.bool (eqC (now, l, tkS ts) (now2, l2, tkS ts2))) ∧ Below w.heap.size w w' := by
  have hb0 := ((Below.refl w.heap.size w).alloc (Nat.le_refl _) (.cells #[.int .i64 now, .slice A l.length c, .slice B ts.length d] 35)).alloc (by simp) (.cells #[.int .i64 now2, .slice A2 l2.length c2, .slice B2_ ts2.length d2] 35)
  have hA1 := (Blk.new w 35 #[.int .i64 now, .slice A l.length c, .slice B ts.length d]).alloc (.cells #[.int .i64 now2, .slice A2 l2.length c2, .slice B2_ ts2.length d2] 35)
  have hA2 := Blk.new (w.alloc (.cells #[.int .i64 now, .slice A l.length c, .slice B ts.length d] 35)) 35 #[.int .i64 now2, .slice A2 l2.length c2, .slice B2_ ts2.length d2]
  simp only [World.size_alloc] at hA2
  have HI := Lib.hid (show B2 35 w #[.int .i64 now, .slice A l.length c, .slice B ts.length d] #[.int .i64 now2, .slice A2 l2.length c2, .slice B2_ ts2.length d2] ((w.alloc (.cells #[.int .i64 now, .slice A l.length c, .slice B ts.length d] 35)).alloc (.cells #[.int .i64 now2, .slice A2 l2.length c2, .slice B2_ ts2.length d2] 35)) from ⟨hA1, hA2, hb0⟩)
  have HC := Lib.hid (specVersSame_any now now2 A A2 l l2 c c2 _ hv hv2 (hV.below hb0) (hV2.below hb0))
  have HS := Lib.hid (hS.below hb0)
  have HS2 := Lib.hid (hS2.below hb0)
  have HL1 := Lib.hid hl1
  have HL2 := Lib.hid hl2
  clear hA1 hA2 hb0 hV hV2 hS hS2 hl1 hl2
  by_cases hv_ : (now, l) = (now2, l2)
  case neg =>
    rw [eqC_no hv_] at HC
    have HV := Lib.hid hv_
    clear hv_
    go_enter Try.func12, Try.ntmps12
    go_wp2_with fail
    generalize (w.alloc (.cells #[.int .i64 now, .slice A l.length c, .slice B ts.length d] 35)).alloc (.cells #[.int .i64 now2, .slice A2 l2.length c2, .slice B2_ ts2.length d2] 35) = w0 at *
    refine HC.out.mono ?_
    rintro e w1 ⟨rfl, hb1⟩
    have HI := Lib.hid (HI.out.below hb1)
    have HS := Lib.hid (HS.out.below hb1)
    have HS2 := Lib.hid (HS2.out.below hb1)
    clear HC hb1
    have hbe := HI.out.2.2
    go_wp2
    go_ret
    exact ⟨ret_bool (eqC_no (fun h => HV.out (by simp only [Prod.mk.injEq] at h ⊢; exact ⟨h.1, h.2.1⟩))).symm, hbe⟩
  rw [eqC_yes hv_] at HC
  have HV := Lib.hid hv_
  clear hv_
  by_cases hlt : ts.length = ts2.length
  case neg =>
    have hlb : (((ts.length : Int) != (ts2.length : Int)) = true) := by simp; omega
    have HL := Lib.hid hlt
    clear hlt
    go_enter Try.func12, Try.ntmps12
    go_wp2_with fail
    generalize (w.alloc (.cells #[.int .i64 now, .slice A l.length c, .slice B ts.length d] 35)).alloc (.cells #[.int .i64 now2, .slice A2 l2.length c2, .slice B2_ ts2.length d2] 35) = w0 at *
    refine HC.out.mono ?_
    rintro e w1 ⟨rfl, hb1⟩
    have HI := Lib.hid (HI.out.below hb1)
    have HS := Lib.hid (HS.out.below hb1)
    have HS2 := Lib.hid (HS2.out.below hb1)
    clear HC hb1
    have r2 : w1.cell? ⟨w.heap.size, 2, none⟩ = some (.slice B ts.length d) := HI.out.1.cell 2
    have s2 : w1.cell? ⟨w.heap.size + 1, 2, none⟩ = some (.slice B2_ ts2.length d2) := HI.out.2.1.cell 2
    have hbe := HI.out.2.2
    go_wp2
    go_ret
    exact ⟨ret_bool (eqC_no (fun h => HL.out (by simp only [Prod.mk.injEq] at h; rw [← tkS_len ts, h.2.2, tkS_len]))).symm, hbe⟩
  have hlb : (((ts.length : Int) != (ts2.length : Int)) = false) := by simp [hlt]
  have HL := Lib.hid hlt
  clear hlt
  go_enter Try.func12, Try.ntmps12
  go_wp2_with fail
  generalize (w.alloc (.cells #[.int .i64 now, .slice A l.length c, .slice B ts.length d] 35)).alloc (.cells #[.int .i64 now2, .slice A2 l2.length c2, .slice B2_ ts2.length d2] 35) = w0 at *
  refine HC.out.mono ?_
  rintro e w1 ⟨rfl, hb1⟩
  have HI := Lib.hid (HI.out.below hb1)
  have HS := Lib.hid (HS.out.below hb1)
  have HS2 := Lib.hid (HS2.out.below hb1)
  clear HC hb1
  have r2 : w1.cell? ⟨w.heap.size, 2, none⟩ = some (.slice B ts.length d) := HI.out.1.cell 2
  have s2 : w1.cell? ⟨w.heap.size + 1, 2, none⟩ = some (.slice B2_ ts2.length d2) := HI.out.2.1.cell 2
  go_wp2
  go_loopw [5] (fun i wr => ∃ k : Nat, k ≤ ts.length ∧ i = .int .i64 k ∧ Hid ((tkS ts).take k = (tkS ts2).take k) ∧ Hid (B2 35 w #[.int .i64 now, .slice A l.length c, .slice B ts.length d] #[.int .i64 now2, .slice A2 l2.length c2, .slice B2_ ts2.length d2] wr) ∧ Hid (SlT wr B ts) ∧ Hid (SlT wr B2_ ts2)) (fun i _ => ts.length - (intOf i).toNat)
  case atStart => exact ⟨0, by omega, rfl, Lib.hid rfl, HI, HS, HS2⟩
  case round =>
    clear HI HS HS2 r2 s2
    obtain ⟨k, hk, rfl, HE, HI, HS, HS2⟩ := hrel
    have r2 : wr.cell? ⟨w.heap.size, 2, none⟩ = some (.slice B ts.length d) := HI.out.1.cell 2
    have s2 : wr.cell? ⟨w.heap.size + 1, 2, none⟩ = some (.slice B2_ ts2.length d2) := HI.out.2.1.cell 2
    by_cases hlt2 : k < ts.length
    · have h2 : k < ts2.length := HL.out ▸ hlt2
      have hg1 := HI.out.1.lt
      have hg2 := HI.out.2.1.lt
      obtain ⟨b, o, rfl, hbl, p0_, p1_, p2_, p3_, p4_, p5_, p6_, p7_⟩ := Sl.at8 HS.out.1 hlt2
      obtain ⟨b2, o2, rfl, hbl2, q0_, q1_, q2_, q3_, q4_, q5_, q6_, q7_⟩ := Sl.at8 HS2.out.1 h2
      obtain ⟨hw1, hn1⟩ := HS.out.2 ts[k] (by simp)
      obtain ⟨hw2, hn2_⟩ := HS2.out.2 ts2[k] (by simp)
      obtain ⟨hx1, hx2⟩ := HL1.out ts[k] (by simp)
      obtain ⟨hy1, hy2⟩ := HL2.out ts2[k] (by simp)
      have HX := Lib.hid (show (tkS ts)[k]'(by rw [tkS_len]; exact hlt2) = tkC ts[k] by simp [tkS])
      have HY := Lib.hid (show (tkS ts2)[k]'(by rw [tkS_len]; exact h2) = tkC ts2[k] by simp [tkS])
      generalize ts[k] = x at *
      generalize ts2[k] = y at *
      obtain ⟨on, bad, at_, ⟨Aw, cw, ws⟩, ⟨An, cn, ns⟩, skip, gone, inb⟩ := x
      obtain ⟨on2, bad2, at2, ⟨Aw2, cw2, ws2⟩, ⟨An2, cn2, ns2⟩, skip2, gone2, inb2⟩ := y
      simp only at p0_ p1_ p2_ p3_ p4_ p5_ p6_ p7_ q0_ q1_ q2_ q3_ q4_ q5_ q6_ q7_ hw1 hn1 hw2 hn2_ hx1 hx2 hy1 hy2
      have HX := Lib.hid (show (tkS ts)[k]'(by rw [tkS_len]; exact hlt2) = (on, bad, at_, ws, ns, skip, gone, inb) from HX.out)
      have HY := Lib.hid (show (tkS ts2)[k]'(by rw [tkS_len]; exact h2) = (on2, bad2, at2, ws2, ns2, skip2, gone2, inb2) from HY.out)
      have hki : (k : Int) < (ts.length : Int) := by omega
      have hki2 : (k : Int) < (ts2.length : Int) := by omega
      have HC := Lib.hid (fun W (h : Below wr.heap.size wr W) => specTalkSame_any on on2 bad bad2 at_ at2 Aw Aw2 cw cw2 ws ws2 An An2 cn cn2 ns ns2 skip skip2 gone gone2 inb inb2 W hx1 hy1 hx2 hy2 (hw1.below h) (hw2.below h) (hn1.below h) (hn2_.below h))
      clear hw1 hn1 hw2 hn2_ hx1 hx2 hy1 hy2
      by_cases hxy : (on, bad, at_, ws, ns, skip, gone, inb) = (on2, bad2, at2, ws2, ns2, skip2, gone2, inb2)
      · rw [eqC_yes hxy] at HC
        have HXY := Lib.hid hxy
        clear hxy
        go_wp2_with fail
        refine wp_region_below (by kernel_rfl) (by kernel_rfl) ?_
        iterate 12 (refine wpQuiet_step (fun K hK => ?_); go_simp; first | (apply Exists.intro; refine ⟨fun W hW => ?_, hK _ ?_⟩; (first | rfl | (go_at_call 48; exact quiet_call hW (Nat.le_refl _) (HC.out _ hW)) | (have r2x := (hW.cell (p := ⟨w.heap.size, 2, none⟩) hg1).trans r2; have s2x := (hW.cell (p := ⟨w.heap.size + 1, 2, none⟩) hg2).trans s2; have e0 := (hW.cell (p := ⟨b, o + k * 8, none⟩) hbl).trans p0_; have f0 := (hW.cell (p := ⟨b2, o2 + k * 8, none⟩) hbl2).trans q0_; have e1 := (hW.cell (p := ⟨b, o + k * 8 + 1, none⟩) hbl).trans p1_; have f1 := (hW.cell (p := ⟨b2, o2 + k * 8 + 1, none⟩) hbl2).trans q1_; have e2 := (hW.cell (p := ⟨b, o + k * 8 + 2, none⟩) hbl).trans p2_; have f2 := (hW.cell (p := ⟨b2, o2 + k * 8 + 2, none⟩) hbl2).trans q2_; have e3 := (hW.cell (p := ⟨b, o + k * 8 + 3, none⟩) hbl).trans p3_; have f3 := (hW.cell (p := ⟨b2, o2 + k * 8 + 3, none⟩) hbl2).trans q3_; have e4 := (hW.cell (p := ⟨b, o + k * 8 + 4, none⟩) hbl).trans p4_; have f4 := (hW.cell (p := ⟨b2, o2 + k * 8 + 4, none⟩) hbl2).trans q4_; have e5 := (hW.cell (p := ⟨b, o + k * 8 + 5, none⟩) hbl).trans p5_; have f5 := (hW.cell (p := ⟨b2, o2 + k * 8 + 5, none⟩) hbl2).trans q5_; have e6 := (hW.cell (p := ⟨b, o + k * 8 + 6, none⟩) hbl).trans p6_; have f6 := (hW.cell (p := ⟨b2, o2 + k * 8 + 6, none⟩) hbl2).trans q6_; have e7 := (hW.cell (p := ⟨b, o + k * 8 + 7, none⟩) hbl).trans p7_; have f7 := (hW.cell (p := ⟨b2, o2 + k * 8 + 7, none⟩) hbl2).trans q7_; go_simp; rfl)); clear hK K) | (refine hK _ ?_; clear hK K))
        refine wpQuiet_nil ?_
        intro W hW
        have HI := Lib.hid (HI.out.below hW)
        have HS := Lib.hid (HS.out.below hW)
        have HS2 := Lib.hid (HS2.out.below hW)
        go_wp2
        go_roundw
        case rel => exact ⟨k+1, by omega, by go_num, Lib.hid (by rw [List.take_succ_eq_append_getElem (by rw [tkS_len]; exact hlt2), List.take_succ_eq_append_getElem (by rw [tkS_len]; exact h2), HE.out, HX.out, HY.out, HXY.out]), HI, HS, HS2⟩
        case measure => simp [intOf]; omega
      · rw [eqC_no hxy] at HC
        have HXY := Lib.hid hxy
        clear hxy
        go_wp2_with fail
        refine wp_region_below (by kernel_rfl) (by kernel_rfl) ?_
        iterate 12 (refine wpQuiet_step (fun K hK => ?_); go_simp; first | (apply Exists.intro; refine ⟨fun W hW => ?_, hK _ ?_⟩; (first | rfl | (go_at_call 48; exact quiet_call hW (Nat.le_refl _) (HC.out _ hW)) | (have r2x := (hW.cell (p := ⟨w.heap.size, 2, none⟩) hg1).trans r2; have s2x := (hW.cell (p := ⟨w.heap.size + 1, 2, none⟩) hg2).trans s2; have e0 := (hW.cell (p := ⟨b, o + k * 8, none⟩) hbl).trans p0_; have f0 := (hW.cell (p := ⟨b2, o2 + k * 8, none⟩) hbl2).trans q0_; have e1 := (hW.cell (p := ⟨b, o + k * 8 + 1, none⟩) hbl).trans p1_; have f1 := (hW.cell (p := ⟨b2, o2 + k * 8 + 1, none⟩) hbl2).trans q1_; have e2 := (hW.cell (p := ⟨b, o + k * 8 + 2, none⟩) hbl).trans p2_; have f2 := (hW.cell (p := ⟨b2, o2 + k * 8 + 2, none⟩) hbl2).trans q2_; have e3 := (hW.cell (p := ⟨b, o + k * 8 + 3, none⟩) hbl).trans p3_; have f3 := (hW.cell (p := ⟨b2, o2 + k * 8 + 3, none⟩) hbl2).trans q3_; have e4 := (hW.cell (p := ⟨b, o + k * 8 + 4, none⟩) hbl).trans p4_; have f4 := (hW.cell (p := ⟨b2, o2 + k * 8 + 4, none⟩) hbl2).trans q4_; have e5 := (hW.cell (p := ⟨b, o + k * 8 + 5, none⟩) hbl).trans p5_; have f5 := (hW.cell (p := ⟨b2, o2 + k * 8 + 5, none⟩) hbl2).trans q5_; have e6 := (hW.cell (p := ⟨b, o + k * 8 + 6, none⟩) hbl).trans p6_; have f6 := (hW.cell (p := ⟨b2, o2 + k * 8 + 6, none⟩) hbl2).trans q6_; have e7 := (hW.cell (p := ⟨b, o + k * 8 + 7, none⟩) hbl).trans p7_; have f7 := (hW.cell (p := ⟨b2, o2 + k * 8 + 7, none⟩) hbl2).trans q7_; go_simp; rfl)); clear hK K) | (refine hK _ ?_; clear hK K))
        refine wpQuiet_nil ?_
        intro W hW
        have hbe := (HI.out.below hW).2.2
        go_wp2
        go_ret
        exact ⟨ret_bool (eqC_no (fun h => list_ne_at (by rw [tkS_len]; exact hlt2) (by rw [tkS_len]; exact h2) (by rw [HX.out, HY.out]; exact HXY.out) (by simp only [Prod.mk.injEq] at h; exact h.2.2))).symm, hbe⟩
    · obtain rfl : k = ts.length := by omega
      have HEQ := Lib.hid (take_all (tkS_len ts) (by rw [tkS_len, HL.out]) HE.out)
      have hbe := HI.out.2.2
      clear HE
      go_wp2
      go_ret
      refine ⟨ret_bool (eqC_yes ?_).symm, hbe⟩
      have := HV.out
      simp only [Prod.mk.injEq] at this
      rw [this.1, this.2, HEQ.out]
end Go.Proofs.Yteanjfjlmpgnnaa
