/- Whether two who talk are one, and whether two halls are: the program's and the reference's. -/
import Derived.Test.YteanjfjlmpgnnaaTkSa
namespace Go.Proofs.Yteanjfjlmpgnnaa
open Go.RowKit
set_option maxRecDepth 100000 in
set_option maxHeartbeats 3000000 in
theorem implTalkSame_any (on on2 bad bad2 : Bool) (at_ at2 : Int) (Aw Aw2 : Option Addr) (cw cw2 : Nat) (ws ws2 : List Wri) (An An2 : Option Addr) (cn cn2 : Nat) (ns ns2 : List Nm) (skip skip2 gone gone2 : Bool) (inb inb2 : ByteArray) (w : World) (hw : ws.length ≤ 1048576) (hw2 : ws2.length ≤ 1048576) (hn : ns.length ≤ 1048576) (hn2 : ns2.length ≤ 1048576) (hR : Sl encWri 3 w Aw ws) (hR2 : Sl encWri 3 w Aw2 ws2) (hN : Sl encNm 5 w An ns) (hN2 : Sl encNm 5 w An2 ns2) :
    Calls Try.prog 51 #[.agg #[.bool on, .bool bad, .int .i64 at_, .slice Aw ws.length cw, .slice An ns.length cn, .bool skip, .bool gone, .string inb], .agg #[.bool on2, .bool bad2, .int .i64 at2, .slice Aw2 ws2.length cw2, .slice An2 ns2.length cn2, .bool skip2, .bool gone2, .string inb2]] w fun e w' => e = .returned (.bool (eqC (on, bad, at_, ws, ns, skip, gone, inb) (on2, bad2, at2, ws2, ns2, skip2, gone2, inb2))) ∧ Below w.heap.size w w' := by
  by_cases hs : (on, bad, at_, ws) = (on2, bad2, at2, ws2)
  case neg =>
    have HS := Lib.hid hs
    clear hs
    have hb0 := ((Below.refl w.heap.size w).alloc (Nat.le_refl _) (.cells #[.bool on, .bool bad, .int .i64 at_, .slice Aw ws.length cw, .slice An ns.length cn, .bool skip, .bool gone, .string inb] 86)).alloc (by simp) (.cells #[.bool on2, .bool bad2, .int .i64 at2, .slice Aw2 ws2.length cw2, .slice An2 ns2.length cn2, .bool skip2, .bool gone2, .string inb2] 86)
    have hA1 := (Blk.new w 86 #[.bool on, .bool bad, .int .i64 at_, .slice Aw ws.length cw, .slice An ns.length cn, .bool skip, .bool gone, .string inb]).alloc (.cells #[.bool on2, .bool bad2, .int .i64 at2, .slice Aw2 ws2.length cw2, .slice An2 ns2.length cn2, .bool skip2, .bool gone2, .string inb2] 86)
    have hA2 := Blk.new (w.alloc (.cells #[.bool on, .bool bad, .int .i64 at_, .slice Aw ws.length cw, .slice An ns.length cn, .bool skip, .bool gone, .string inb] 86)) 86 #[.bool on2, .bool bad2, .int .i64 at2, .slice Aw2 ws2.length cw2, .slice An2 ns2.length cn2, .bool skip2, .bool gone2, .string inb2]
    simp only [World.size_alloc] at hA2
    have HI := Lib.hid (show B2 86 w #[.bool on, .bool bad, .int .i64 at_, .slice Aw ws.length cw, .slice An ns.length cn, .bool skip, .bool gone, .string inb] #[.bool on2, .bool bad2, .int .i64 at2, .slice Aw2 ws2.length cw2, .slice An2 ns2.length cn2, .bool skip2, .bool gone2, .string inb2] ((w.alloc (.cells #[.bool on, .bool bad, .int .i64 at_, .slice Aw ws.length cw, .slice An ns.length cn, .bool skip, .bool gone, .string inb] 86)).alloc (.cells #[.bool on2, .bool bad2, .int .i64 at2, .slice Aw2 ws2.length cw2, .slice An2 ns2.length cn2, .bool skip2, .bool gone2, .string inb2] 86)) from ⟨hA1, hA2, hb0⟩)
    have HC := Lib.hid (implSeatSame_any on on2 bad bad2 at_ at2 Aw Aw2 ws ws2 cw cw2 _ hw hw2 (hR.below hb0) (hR2.below hb0))
    have HN := Lib.hid (hN.below hb0)
    have HN2 := Lib.hid (hN2.below hb0)
    rw [eqC_no HS.out] at HC
    clear hA1 hA2 hb0 hR hR2 hN hN2
    go_enter Try.func51, Try.ntmps51
    go_wp2_with fail
    generalize (w.alloc (.cells #[.bool on, .bool bad, .int .i64 at_, .slice Aw ws.length cw, .slice An ns.length cn, .bool skip, .bool gone, .string inb] 86)).alloc (.cells #[.bool on2, .bool bad2, .int .i64 at2, .slice Aw2 ws2.length cw2, .slice An2 ns2.length cn2, .bool skip2, .bool gone2, .string inb2] 86) = w0 at *
    refine HC.out.mono ?_
    rintro e w1 ⟨rfl, hb1⟩
    have HI := Lib.hid (HI.out.below hb1)
    have HN := Lib.hid (HN.out.below hb1)
    have HN2 := Lib.hid (HN2.out.below hb1)
    clear HC hb1
    have hbe := HI.out.2.2
    go_wp2
    go_ret
    exact ⟨ret_bool (eqC_no (fun h => HS.out (by simp only [Prod.mk.injEq] at h ⊢; exact ⟨h.1, h.2.1, h.2.2.1, h.2.2.2.1⟩))).symm, hbe⟩
  simp only [Prod.mk.injEq] at hs
  obtain ⟨rfl, rfl, rfl, rfl⟩ := hs
  by_cases hs : ns = ns2
  case neg =>
    have HS := Lib.hid hs
    clear hs
    have hb0 := ((Below.refl w.heap.size w).alloc (Nat.le_refl _) (.cells #[.bool on, .bool bad, .int .i64 at_, .slice Aw ws.length cw, .slice An ns.length cn, .bool skip, .bool gone, .string inb] 86)).alloc (by simp) (.cells #[.bool on, .bool bad, .int .i64 at_, .slice Aw2 ws.length cw2, .slice An2 ns2.length cn2, .bool skip2, .bool gone2, .string inb2] 86)
    have hA1 := (Blk.new w 86 #[.bool on, .bool bad, .int .i64 at_, .slice Aw ws.length cw, .slice An ns.length cn, .bool skip, .bool gone, .string inb]).alloc (.cells #[.bool on, .bool bad, .int .i64 at_, .slice Aw2 ws.length cw2, .slice An2 ns2.length cn2, .bool skip2, .bool gone2, .string inb2] 86)
    have hA2 := Blk.new (w.alloc (.cells #[.bool on, .bool bad, .int .i64 at_, .slice Aw ws.length cw, .slice An ns.length cn, .bool skip, .bool gone, .string inb] 86)) 86 #[.bool on, .bool bad, .int .i64 at_, .slice Aw2 ws.length cw2, .slice An2 ns2.length cn2, .bool skip2, .bool gone2, .string inb2]
    simp only [World.size_alloc] at hA2
    have HI := Lib.hid (show B2 86 w #[.bool on, .bool bad, .int .i64 at_, .slice Aw ws.length cw, .slice An ns.length cn, .bool skip, .bool gone, .string inb] #[.bool on, .bool bad, .int .i64 at_, .slice Aw2 ws.length cw2, .slice An2 ns2.length cn2, .bool skip2, .bool gone2, .string inb2] ((w.alloc (.cells #[.bool on, .bool bad, .int .i64 at_, .slice Aw ws.length cw, .slice An ns.length cn, .bool skip, .bool gone, .string inb] 86)).alloc (.cells #[.bool on, .bool bad, .int .i64 at_, .slice Aw2 ws.length cw2, .slice An2 ns2.length cn2, .bool skip2, .bool gone2, .string inb2] 86)) from ⟨hA1, hA2, hb0⟩)
    have HC := Lib.hid (implSeatSame_any on on bad bad at_ at_ Aw Aw2 ws ws cw cw2 _ hw hw (hR.below hb0) (hR2.below hb0))
    have HN := Lib.hid (hN.below hb0)
    have HN2 := Lib.hid (hN2.below hb0)
    rw [eqC_yes rfl] at HC
    clear hA1 hA2 hb0 hR hR2 hN hN2
    go_enter Try.func51, Try.ntmps51
    go_wp2_with fail
    generalize (w.alloc (.cells #[.bool on, .bool bad, .int .i64 at_, .slice Aw ws.length cw, .slice An ns.length cn, .bool skip, .bool gone, .string inb] 86)).alloc (.cells #[.bool on, .bool bad, .int .i64 at_, .slice Aw2 ws.length cw2, .slice An2 ns2.length cn2, .bool skip2, .bool gone2, .string inb2] 86) = w0 at *
    refine HC.out.mono ?_
    rintro e w1 ⟨rfl, hb1⟩
    have HI := Lib.hid (HI.out.below hb1)
    have HN := Lib.hid (HN.out.below hb1)
    have HN2 := Lib.hid (HN2.out.below hb1)
    clear HC hb1
    have r4 : w1.cell? ⟨w.heap.size, 4, none⟩ = some (.slice An ns.length cn) := HI.out.1.cell 4
    have s4 : w1.cell? ⟨w.heap.size + 1, 4, none⟩ = some (.slice An2 ns2.length cn2) := HI.out.2.1.cell 4
    have r5 : w1.cell? ⟨w.heap.size, 5, none⟩ = some (.bool skip) := HI.out.1.cell 5
    have s5 : w1.cell? ⟨w.heap.size + 1, 5, none⟩ = some (.bool skip2) := HI.out.2.1.cell 5
    have r6 : w1.cell? ⟨w.heap.size, 6, none⟩ = some (.bool gone) := HI.out.1.cell 6
    have s6 : w1.cell? ⟨w.heap.size + 1, 6, none⟩ = some (.bool gone2) := HI.out.2.1.cell 6
    have r7 : w1.cell? ⟨w.heap.size, 7, none⟩ = some (.string inb) := HI.out.1.cell 7
    have s7 : w1.cell? ⟨w.heap.size + 1, 7, none⟩ = some (.string inb2) := HI.out.2.1.cell 7
    have HC := Lib.hid (equalN_any An An2 ns ns2 cn cn2 w1 hn hn2 HN.out HN2.out)
    rw [eqB_no HS.out] at HC
    go_wp2_with fail
    refine HC.out.mono ?_
    rintro e w2 ⟨rfl, hb2⟩
    have HI := Lib.hid (HI.out.below hb2)
    clear HC hb2
    have u5 : w2.cell? ⟨w.heap.size, 5, none⟩ = some (.bool skip) := HI.out.1.cell 5
    have v5 : w2.cell? ⟨w.heap.size + 1, 5, none⟩ = some (.bool skip2) := HI.out.2.1.cell 5
    have u6 : w2.cell? ⟨w.heap.size, 6, none⟩ = some (.bool gone) := HI.out.1.cell 6
    have v6 : w2.cell? ⟨w.heap.size + 1, 6, none⟩ = some (.bool gone2) := HI.out.2.1.cell 6
    have u7 : w2.cell? ⟨w.heap.size, 7, none⟩ = some (.string inb) := HI.out.1.cell 7
    have v7 : w2.cell? ⟨w.heap.size + 1, 7, none⟩ = some (.string inb2) := HI.out.2.1.cell 7
    have hbe := HI.out.2.2
    go_wp2
    go_ret
    exact ⟨ret_bool (eqC_no (fun h => HS.out (by simp only [Prod.mk.injEq, true_and, and_true] at h; exact h.1))).symm, hbe⟩
  subst hs
  by_cases hs : skip = skip2
  case neg =>
    have HS := Lib.hid hs
    have dn : (skip == skip2) = false := by simpa using hs
    have dn2 : (skip != skip2) = true := by simpa using hs
    clear hs
    have hb0 := ((Below.refl w.heap.size w).alloc (Nat.le_refl _) (.cells #[.bool on, .bool bad, .int .i64 at_, .slice Aw ws.length cw, .slice An ns.length cn, .bool skip, .bool gone, .string inb] 86)).alloc (by simp) (.cells #[.bool on, .bool bad, .int .i64 at_, .slice Aw2 ws.length cw2, .slice An2 ns.length cn2, .bool skip2, .bool gone2, .string inb2] 86)
    have hA1 := (Blk.new w 86 #[.bool on, .bool bad, .int .i64 at_, .slice Aw ws.length cw, .slice An ns.length cn, .bool skip, .bool gone, .string inb]).alloc (.cells #[.bool on, .bool bad, .int .i64 at_, .slice Aw2 ws.length cw2, .slice An2 ns.length cn2, .bool skip2, .bool gone2, .string inb2] 86)
    have hA2 := Blk.new (w.alloc (.cells #[.bool on, .bool bad, .int .i64 at_, .slice Aw ws.length cw, .slice An ns.length cn, .bool skip, .bool gone, .string inb] 86)) 86 #[.bool on, .bool bad, .int .i64 at_, .slice Aw2 ws.length cw2, .slice An2 ns.length cn2, .bool skip2, .bool gone2, .string inb2]
    simp only [World.size_alloc] at hA2
    have HI := Lib.hid (show B2 86 w #[.bool on, .bool bad, .int .i64 at_, .slice Aw ws.length cw, .slice An ns.length cn, .bool skip, .bool gone, .string inb] #[.bool on, .bool bad, .int .i64 at_, .slice Aw2 ws.length cw2, .slice An2 ns.length cn2, .bool skip2, .bool gone2, .string inb2] ((w.alloc (.cells #[.bool on, .bool bad, .int .i64 at_, .slice Aw ws.length cw, .slice An ns.length cn, .bool skip, .bool gone, .string inb] 86)).alloc (.cells #[.bool on, .bool bad, .int .i64 at_, .slice Aw2 ws.length cw2, .slice An2 ns.length cn2, .bool skip2, .bool gone2, .string inb2] 86)) from ⟨hA1, hA2, hb0⟩)
    have HC := Lib.hid (implSeatSame_any on on bad bad at_ at_ Aw Aw2 ws ws cw cw2 _ hw hw (hR.below hb0) (hR2.below hb0))
    have HN := Lib.hid (hN.below hb0)
    have HN2 := Lib.hid (hN2.below hb0)
    rw [eqC_yes rfl] at HC
    clear hA1 hA2 hb0 hR hR2 hN hN2
    go_enter Try.func51, Try.ntmps51
    go_wp2_with fail
    generalize (w.alloc (.cells #[.bool on, .bool bad, .int .i64 at_, .slice Aw ws.length cw, .slice An ns.length cn, .bool skip, .bool gone, .string inb] 86)).alloc (.cells #[.bool on, .bool bad, .int .i64 at_, .slice Aw2 ws.length cw2, .slice An2 ns.length cn2, .bool skip2, .bool gone2, .string inb2] 86) = w0 at *
    refine HC.out.mono ?_
    rintro e w1 ⟨rfl, hb1⟩
    have HI := Lib.hid (HI.out.below hb1)
    have HN := Lib.hid (HN.out.below hb1)
    have HN2 := Lib.hid (HN2.out.below hb1)
    clear HC hb1
    have r4 : w1.cell? ⟨w.heap.size, 4, none⟩ = some (.slice An ns.length cn) := HI.out.1.cell 4
    have s4 : w1.cell? ⟨w.heap.size + 1, 4, none⟩ = some (.slice An2 ns.length cn2) := HI.out.2.1.cell 4
    have r5 : w1.cell? ⟨w.heap.size, 5, none⟩ = some (.bool skip) := HI.out.1.cell 5
    have s5 : w1.cell? ⟨w.heap.size + 1, 5, none⟩ = some (.bool skip2) := HI.out.2.1.cell 5
    have r6 : w1.cell? ⟨w.heap.size, 6, none⟩ = some (.bool gone) := HI.out.1.cell 6
    have s6 : w1.cell? ⟨w.heap.size + 1, 6, none⟩ = some (.bool gone2) := HI.out.2.1.cell 6
    have r7 : w1.cell? ⟨w.heap.size, 7, none⟩ = some (.string inb) := HI.out.1.cell 7
    have s7 : w1.cell? ⟨w.heap.size + 1, 7, none⟩ = some (.string inb2) := HI.out.2.1.cell 7
    have HC := Lib.hid (equalN_any An An2 ns ns cn cn2 w1 hn hn HN.out HN2.out)
    rw [eqB_yes rfl] at HC
    go_wp2_with fail
    refine HC.out.mono ?_
    rintro e w2 ⟨rfl, hb2⟩
    have HI := Lib.hid (HI.out.below hb2)
    clear HC hb2
    have u5 : w2.cell? ⟨w.heap.size, 5, none⟩ = some (.bool skip) := HI.out.1.cell 5
    have v5 : w2.cell? ⟨w.heap.size + 1, 5, none⟩ = some (.bool skip2) := HI.out.2.1.cell 5
    have u6 : w2.cell? ⟨w.heap.size, 6, none⟩ = some (.bool gone) := HI.out.1.cell 6
    have v6 : w2.cell? ⟨w.heap.size + 1, 6, none⟩ = some (.bool gone2) := HI.out.2.1.cell 6
    have u7 : w2.cell? ⟨w.heap.size, 7, none⟩ = some (.string inb) := HI.out.1.cell 7
    have v7 : w2.cell? ⟨w.heap.size + 1, 7, none⟩ = some (.string inb2) := HI.out.2.1.cell 7
    have hbe := HI.out.2.2
    go_wp2
    go_ret
    exact ⟨ret_bool (eqC_no (fun h => HS.out (by simp only [Prod.mk.injEq, true_and, and_true] at h; exact h.1))).symm, hbe⟩
  subst hs
  by_cases hs : gone = gone2
  case neg =>
    have HS := Lib.hid hs
    have dn : (gone == gone2) = false := by simpa using hs
    have dn2 : (gone != gone2) = true := by simpa using hs
    clear hs
    have hb0 := ((Below.refl w.heap.size w).alloc (Nat.le_refl _) (.cells #[.bool on, .bool bad, .int .i64 at_, .slice Aw ws.length cw, .slice An ns.length cn, .bool skip, .bool gone, .string inb] 86)).alloc (by simp) (.cells #[.bool on, .bool bad, .int .i64 at_, .slice Aw2 ws.length cw2, .slice An2 ns.length cn2, .bool skip, .bool gone2, .string inb2] 86)
    have hA1 := (Blk.new w 86 #[.bool on, .bool bad, .int .i64 at_, .slice Aw ws.length cw, .slice An ns.length cn, .bool skip, .bool gone, .string inb]).alloc (.cells #[.bool on, .bool bad, .int .i64 at_, .slice Aw2 ws.length cw2, .slice An2 ns.length cn2, .bool skip, .bool gone2, .string inb2] 86)
    have hA2 := Blk.new (w.alloc (.cells #[.bool on, .bool bad, .int .i64 at_, .slice Aw ws.length cw, .slice An ns.length cn, .bool skip, .bool gone, .string inb] 86)) 86 #[.bool on, .bool bad, .int .i64 at_, .slice Aw2 ws.length cw2, .slice An2 ns.length cn2, .bool skip, .bool gone2, .string inb2]
    simp only [World.size_alloc] at hA2
    have HI := Lib.hid (show B2 86 w #[.bool on, .bool bad, .int .i64 at_, .slice Aw ws.length cw, .slice An ns.length cn, .bool skip, .bool gone, .string inb] #[.bool on, .bool bad, .int .i64 at_, .slice Aw2 ws.length cw2, .slice An2 ns.length cn2, .bool skip, .bool gone2, .string inb2] ((w.alloc (.cells #[.bool on, .bool bad, .int .i64 at_, .slice Aw ws.length cw, .slice An ns.length cn, .bool skip, .bool gone, .string inb] 86)).alloc (.cells #[.bool on, .bool bad, .int .i64 at_, .slice Aw2 ws.length cw2, .slice An2 ns.length cn2, .bool skip, .bool gone2, .string inb2] 86)) from ⟨hA1, hA2, hb0⟩)
    have HC := Lib.hid (implSeatSame_any on on bad bad at_ at_ Aw Aw2 ws ws cw cw2 _ hw hw (hR.below hb0) (hR2.below hb0))
    have HN := Lib.hid (hN.below hb0)
    have HN2 := Lib.hid (hN2.below hb0)
    rw [eqC_yes rfl] at HC
    clear hA1 hA2 hb0 hR hR2 hN hN2
    go_enter Try.func51, Try.ntmps51
    go_wp2_with fail
    generalize (w.alloc (.cells #[.bool on, .bool bad, .int .i64 at_, .slice Aw ws.length cw, .slice An ns.length cn, .bool skip, .bool gone, .string inb] 86)).alloc (.cells #[.bool on, .bool bad, .int .i64 at_, .slice Aw2 ws.length cw2, .slice An2 ns.length cn2, .bool skip, .bool gone2, .string inb2] 86) = w0 at *
    refine HC.out.mono ?_
    rintro e w1 ⟨rfl, hb1⟩
    have HI := Lib.hid (HI.out.below hb1)
    have HN := Lib.hid (HN.out.below hb1)
    have HN2 := Lib.hid (HN2.out.below hb1)
    clear HC hb1
    have r4 : w1.cell? ⟨w.heap.size, 4, none⟩ = some (.slice An ns.length cn) := HI.out.1.cell 4
    have s4 : w1.cell? ⟨w.heap.size + 1, 4, none⟩ = some (.slice An2 ns.length cn2) := HI.out.2.1.cell 4
    have r5 : w1.cell? ⟨w.heap.size, 5, none⟩ = some (.bool skip) := HI.out.1.cell 5
    have s5 : w1.cell? ⟨w.heap.size + 1, 5, none⟩ = some (.bool skip) := HI.out.2.1.cell 5
    have r6 : w1.cell? ⟨w.heap.size, 6, none⟩ = some (.bool gone) := HI.out.1.cell 6
    have s6 : w1.cell? ⟨w.heap.size + 1, 6, none⟩ = some (.bool gone2) := HI.out.2.1.cell 6
    have r7 : w1.cell? ⟨w.heap.size, 7, none⟩ = some (.string inb) := HI.out.1.cell 7
    have s7 : w1.cell? ⟨w.heap.size + 1, 7, none⟩ = some (.string inb2) := HI.out.2.1.cell 7
    have HC := Lib.hid (equalN_any An An2 ns ns cn cn2 w1 hn hn HN.out HN2.out)
    rw [eqB_yes rfl] at HC
    go_wp2_with fail
    refine HC.out.mono ?_
    rintro e w2 ⟨rfl, hb2⟩
    have HI := Lib.hid (HI.out.below hb2)
    clear HC hb2
    have u5 : w2.cell? ⟨w.heap.size, 5, none⟩ = some (.bool skip) := HI.out.1.cell 5
    have v5 : w2.cell? ⟨w.heap.size + 1, 5, none⟩ = some (.bool skip) := HI.out.2.1.cell 5
    have u6 : w2.cell? ⟨w.heap.size, 6, none⟩ = some (.bool gone) := HI.out.1.cell 6
    have v6 : w2.cell? ⟨w.heap.size + 1, 6, none⟩ = some (.bool gone2) := HI.out.2.1.cell 6
    have u7 : w2.cell? ⟨w.heap.size, 7, none⟩ = some (.string inb) := HI.out.1.cell 7
    have v7 : w2.cell? ⟨w.heap.size + 1, 7, none⟩ = some (.string inb2) := HI.out.2.1.cell 7
    have hbe := HI.out.2.2
    go_wp2
    go_ret
    exact ⟨ret_bool (eqC_no (fun h => HS.out (by simp only [Prod.mk.injEq, true_and, and_true] at h; exact h.1))).symm, hbe⟩
  subst hs
  by_cases hs : inb = inb2
  case neg =>
    have HS := Lib.hid hs
    have dn : (inb.toList == inb2.toList) = false := beq_eq_false_iff_ne.2 (fun h => hs ((bytes_eq_iff _ _).1 h))
    have dn2 : (inb.toList != inb2.toList) = true := by simp only [bne, dn]; rfl
    clear hs
    have hb0 := ((Below.refl w.heap.size w).alloc (Nat.le_refl _) (.cells #[.bool on, .bool bad, .int .i64 at_, .slice Aw ws.length cw, .slice An ns.length cn, .bool skip, .bool gone, .string inb] 86)).alloc (by simp) (.cells #[.bool on, .bool bad, .int .i64 at_, .slice Aw2 ws.length cw2, .slice An2 ns.length cn2, .bool skip, .bool gone, .string inb2] 86)
    have hA1 := (Blk.new w 86 #[.bool on, .bool bad, .int .i64 at_, .slice Aw ws.length cw, .slice An ns.length cn, .bool skip, .bool gone, .string inb]).alloc (.cells #[.bool on, .bool bad, .int .i64 at_, .slice Aw2 ws.length cw2, .slice An2 ns.length cn2, .bool skip, .bool gone, .string inb2] 86)
    have hA2 := Blk.new (w.alloc (.cells #[.bool on, .bool bad, .int .i64 at_, .slice Aw ws.length cw, .slice An ns.length cn, .bool skip, .bool gone, .string inb] 86)) 86 #[.bool on, .bool bad, .int .i64 at_, .slice Aw2 ws.length cw2, .slice An2 ns.length cn2, .bool skip, .bool gone, .string inb2]
    simp only [World.size_alloc] at hA2
    have HI := Lib.hid (show B2 86 w #[.bool on, .bool bad, .int .i64 at_, .slice Aw ws.length cw, .slice An ns.length cn, .bool skip, .bool gone, .string inb] #[.bool on, .bool bad, .int .i64 at_, .slice Aw2 ws.length cw2, .slice An2 ns.length cn2, .bool skip, .bool gone, .string inb2] ((w.alloc (.cells #[.bool on, .bool bad, .int .i64 at_, .slice Aw ws.length cw, .slice An ns.length cn, .bool skip, .bool gone, .string inb] 86)).alloc (.cells #[.bool on, .bool bad, .int .i64 at_, .slice Aw2 ws.length cw2, .slice An2 ns.length cn2, .bool skip, .bool gone, .string inb2] 86)) from ⟨hA1, hA2, hb0⟩)
    have HC := Lib.hid (implSeatSame_any on on bad bad at_ at_ Aw Aw2 ws ws cw cw2 _ hw hw (hR.below hb0) (hR2.below hb0))
    have HN := Lib.hid (hN.below hb0)
    have HN2 := Lib.hid (hN2.below hb0)
    rw [eqC_yes rfl] at HC
    clear hA1 hA2 hb0 hR hR2 hN hN2
    go_enter Try.func51, Try.ntmps51
    go_wp2_with fail
    generalize (w.alloc (.cells #[.bool on, .bool bad, .int .i64 at_, .slice Aw ws.length cw, .slice An ns.length cn, .bool skip, .bool gone, .string inb] 86)).alloc (.cells #[.bool on, .bool bad, .int .i64 at_, .slice Aw2 ws.length cw2, .slice An2 ns.length cn2, .bool skip, .bool gone, .string inb2] 86) = w0 at *
    refine HC.out.mono ?_
    rintro e w1 ⟨rfl, hb1⟩
    have HI := Lib.hid (HI.out.below hb1)
    have HN := Lib.hid (HN.out.below hb1)
    have HN2 := Lib.hid (HN2.out.below hb1)
    clear HC hb1
    have r4 : w1.cell? ⟨w.heap.size, 4, none⟩ = some (.slice An ns.length cn) := HI.out.1.cell 4
    have s4 : w1.cell? ⟨w.heap.size + 1, 4, none⟩ = some (.slice An2 ns.length cn2) := HI.out.2.1.cell 4
    have r5 : w1.cell? ⟨w.heap.size, 5, none⟩ = some (.bool skip) := HI.out.1.cell 5
    have s5 : w1.cell? ⟨w.heap.size + 1, 5, none⟩ = some (.bool skip) := HI.out.2.1.cell 5
    have r6 : w1.cell? ⟨w.heap.size, 6, none⟩ = some (.bool gone) := HI.out.1.cell 6
    have s6 : w1.cell? ⟨w.heap.size + 1, 6, none⟩ = some (.bool gone) := HI.out.2.1.cell 6
    have r7 : w1.cell? ⟨w.heap.size, 7, none⟩ = some (.string inb) := HI.out.1.cell 7
    have s7 : w1.cell? ⟨w.heap.size + 1, 7, none⟩ = some (.string inb2) := HI.out.2.1.cell 7
    have HC := Lib.hid (equalN_any An An2 ns ns cn cn2 w1 hn hn HN.out HN2.out)
    rw [eqB_yes rfl] at HC
    go_wp2_with fail
    refine HC.out.mono ?_
    rintro e w2 ⟨rfl, hb2⟩
    have HI := Lib.hid (HI.out.below hb2)
    clear HC hb2
    have u5 : w2.cell? ⟨w.heap.size, 5, none⟩ = some (.bool skip) := HI.out.1.cell 5
    have v5 : w2.cell? ⟨w.heap.size + 1, 5, none⟩ = some (.bool skip) := HI.out.2.1.cell 5
    have u6 : w2.cell? ⟨w.heap.size, 6, none⟩ = some (.bool gone) := HI.out.1.cell 6
    have v6 : w2.cell? ⟨w.heap.size + 1, 6, none⟩ = some (.bool gone) := HI.out.2.1.cell 6
    have u7 : w2.cell? ⟨w.heap.size, 7, none⟩ = some (.string inb) := HI.out.1.cell 7
    have v7 : w2.cell? ⟨w.heap.size + 1, 7, none⟩ = some (.string inb2) := HI.out.2.1.cell 7
    have hbe := HI.out.2.2
    go_wp2
    go_ret
    exact ⟨ret_bool (eqC_no (fun h => HS.out (by simp only [Prod.mk.injEq, true_and, and_true] at h; exact h))).symm, hbe⟩
  subst hs
  have hb0 := ((Below.refl w.heap.size w).alloc (Nat.le_refl _) (.cells #[.bool on, .bool bad, .int .i64 at_, .slice Aw ws.length cw, .slice An ns.length cn, .bool skip, .bool gone, .string inb] 86)).alloc (by simp) (.cells #[.bool on, .bool bad, .int .i64 at_, .slice Aw2 ws.length cw2, .slice An2 ns.length cn2, .bool skip, .bool gone, .string inb] 86)
  have hA1 := (Blk.new w 86 #[.bool on, .bool bad, .int .i64 at_, .slice Aw ws.length cw, .slice An ns.length cn, .bool skip, .bool gone, .string inb]).alloc (.cells #[.bool on, .bool bad, .int .i64 at_, .slice Aw2 ws.length cw2, .slice An2 ns.length cn2, .bool skip, .bool gone, .string inb] 86)
  have hA2 := Blk.new (w.alloc (.cells #[.bool on, .bool bad, .int .i64 at_, .slice Aw ws.length cw, .slice An ns.length cn, .bool skip, .bool gone, .string inb] 86)) 86 #[.bool on, .bool bad, .int .i64 at_, .slice Aw2 ws.length cw2, .slice An2 ns.length cn2, .bool skip, .bool gone, .string inb]
  simp only [World.size_alloc] at hA2
  have HI := Lib.hid (show B2 86 w #[.bool on, .bool bad, .int .i64 at_, .slice Aw ws.length cw, .slice An ns.length cn, .bool skip, .bool gone, .string inb] #[.bool on, .bool bad, .int .i64 at_, .slice Aw2 ws.length cw2, .slice An2 ns.length cn2, .bool skip, .bool gone, .string inb] ((w.alloc (.cells #[.bool on, .bool bad, .int .i64 at_, .slice Aw ws.length cw, .slice An ns.length cn, .bool skip, .bool gone, .string inb] 86)).alloc (.cells #[.bool on, .bool bad, .int .i64 at_, .slice Aw2 ws.length cw2, .slice An2 ns.length cn2, .bool skip, .bool gone, .string inb] 86)) from ⟨hA1, hA2, hb0⟩)
  have HC := Lib.hid (implSeatSame_any on on bad bad at_ at_ Aw Aw2 ws ws cw cw2 _ hw hw (hR.below hb0) (hR2.below hb0))
  have HN := Lib.hid (hN.below hb0)
  have HN2 := Lib.hid (hN2.below hb0)
  rw [eqC_yes rfl] at HC
  clear hA1 hA2 hb0 hR hR2 hN hN2
  go_enter Try.func51, Try.ntmps51
  go_wp2_with fail
  generalize (w.alloc (.cells #[.bool on, .bool bad, .int .i64 at_, .slice Aw ws.length cw, .slice An ns.length cn, .bool skip, .bool gone, .string inb] 86)).alloc (.cells #[.bool on, .bool bad, .int .i64 at_, .slice Aw2 ws.length cw2, .slice An2 ns.length cn2, .bool skip, .bool gone, .string inb] 86) = w0 at *
  refine HC.out.mono ?_
  rintro e w1 ⟨rfl, hb1⟩
  have HI := Lib.hid (HI.out.below hb1)
  have HN := Lib.hid (HN.out.below hb1)
  have HN2 := Lib.hid (HN2.out.below hb1)
  clear HC hb1
  have r4 : w1.cell? ⟨w.heap.size, 4, none⟩ = some (.slice An ns.length cn) := HI.out.1.cell 4
  have s4 : w1.cell? ⟨w.heap.size + 1, 4, none⟩ = some (.slice An2 ns.length cn2) := HI.out.2.1.cell 4
  have r5 : w1.cell? ⟨w.heap.size, 5, none⟩ = some (.bool skip) := HI.out.1.cell 5
  have s5 : w1.cell? ⟨w.heap.size + 1, 5, none⟩ = some (.bool skip) := HI.out.2.1.cell 5
  have r6 : w1.cell? ⟨w.heap.size, 6, none⟩ = some (.bool gone) := HI.out.1.cell 6
  have s6 : w1.cell? ⟨w.heap.size + 1, 6, none⟩ = some (.bool gone) := HI.out.2.1.cell 6
  have r7 : w1.cell? ⟨w.heap.size, 7, none⟩ = some (.string inb) := HI.out.1.cell 7
  have s7 : w1.cell? ⟨w.heap.size + 1, 7, none⟩ = some (.string inb) := HI.out.2.1.cell 7
  have HC := Lib.hid (equalN_any An An2 ns ns cn cn2 w1 hn hn HN.out HN2.out)
  rw [eqB_yes rfl] at HC
  go_wp2_with fail
  refine HC.out.mono ?_
  rintro e w2 ⟨rfl, hb2⟩
  have HI := Lib.hid (HI.out.below hb2)
  clear HC hb2
  have u5 : w2.cell? ⟨w.heap.size, 5, none⟩ = some (.bool skip) := HI.out.1.cell 5
  have v5 : w2.cell? ⟨w.heap.size + 1, 5, none⟩ = some (.bool skip) := HI.out.2.1.cell 5
  have u6 : w2.cell? ⟨w.heap.size, 6, none⟩ = some (.bool gone) := HI.out.1.cell 6
  have v6 : w2.cell? ⟨w.heap.size + 1, 6, none⟩ = some (.bool gone) := HI.out.2.1.cell 6
  have u7 : w2.cell? ⟨w.heap.size, 7, none⟩ = some (.string inb) := HI.out.1.cell 7
  have v7 : w2.cell? ⟨w.heap.size + 1, 7, none⟩ = some (.string inb) := HI.out.2.1.cell 7
  have hbe := HI.out.2.2
  go_wp2
  go_ret
  exact ⟨ret_bool (eqC_yes rfl).symm, hbe⟩
set_option maxRecDepth 100000 in
set_option maxHeartbeats 3000000 in
theorem specTalkSame_any (on on2 bad bad2 : Bool) (at_ at2 : Int) (Aw Aw2 : Option Addr) (cw cw2 : Nat) (ws ws2 : List Wri) (An An2 : Option Addr) (cn cn2 : Nat) (ns ns2 : List Nm) (skip skip2 gone gone2 : Bool) (inb inb2 : ByteArray) (w : World) (hw : ws.length ≤ 1048576) (hw2 : ws2.length ≤ 1048576) (hn : ns.length ≤ 1048576) (hn2 : ns2.length ≤ 1048576) (hR : Sl encWri 3 w Aw ws) (hR2 : Sl encWri 3 w Aw2 ws2) (hN : Sl encNm 5 w An ns) (hN2 : Sl encNm 5 w An2 ns2) :
    Calls Try.prog 48 #[.agg #[.bool on, .bool bad, .int .i64 at_, .slice Aw ws.length cw, .slice An ns.length cn, .bool skip, .bool gone, .string inb], .agg #[.bool on2, .bool bad2, .int .i64 at2, .slice Aw2 ws2.length cw2, .slice An2 ns2.length cn2, .bool skip2, .bool gone2, .string inb2]] w fun e w' => e = .returned (.bool (eqC (on, bad, at_, ws, ns, skip, gone, inb) (on2, bad2, at2, ws2, ns2, skip2, gone2, inb2))) ∧ Below w.heap.size w w' := by
  by_cases hs : (on, bad, at_, ws) = (on2, bad2, at2, ws2)
  case neg =>
    have HS := Lib.hid hs
    clear hs
    have hb0 := ((Below.refl w.heap.size w).alloc (Nat.le_refl _) (.cells #[.bool on, .bool bad, .int .i64 at_, .slice Aw ws.length cw, .slice An ns.length cn, .bool skip, .bool gone, .string inb] 86)).alloc (by simp) (.cells #[.bool on2, .bool bad2, .int .i64 at2, .slice Aw2 ws2.length cw2, .slice An2 ns2.length cn2, .bool skip2, .bool gone2, .string inb2] 86)
    have hA1 := (Blk.new w 86 #[.bool on, .bool bad, .int .i64 at_, .slice Aw ws.length cw, .slice An ns.length cn, .bool skip, .bool gone, .string inb]).alloc (.cells #[.bool on2, .bool bad2, .int .i64 at2, .slice Aw2 ws2.length cw2, .slice An2 ns2.length cn2, .bool skip2, .bool gone2, .string inb2] 86)
    have hA2 := Blk.new (w.alloc (.cells #[.bool on, .bool bad, .int .i64 at_, .slice Aw ws.length cw, .slice An ns.length cn, .bool skip, .bool gone, .string inb] 86)) 86 #[.bool on2, .bool bad2, .int .i64 at2, .slice Aw2 ws2.length cw2, .slice An2 ns2.length cn2, .bool skip2, .bool gone2, .string inb2]
    simp only [World.size_alloc] at hA2
    have HI := Lib.hid (show B2 86 w #[.bool on, .bool bad, .int .i64 at_, .slice Aw ws.length cw, .slice An ns.length cn, .bool skip, .bool gone, .string inb] #[.bool on2, .bool bad2, .int .i64 at2, .slice Aw2 ws2.length cw2, .slice An2 ns2.length cn2, .bool skip2, .bool gone2, .string inb2] ((w.alloc (.cells #[.bool on, .bool bad, .int .i64 at_, .slice Aw ws.length cw, .slice An ns.length cn, .bool skip, .bool gone, .string inb] 86)).alloc (.cells #[.bool on2, .bool bad2, .int .i64 at2, .slice Aw2 ws2.length cw2, .slice An2 ns2.length cn2, .bool skip2, .bool gone2, .string inb2] 86)) from ⟨hA1, hA2, hb0⟩)
    have HC := Lib.hid (specSeatSame_any on on2 bad bad2 at_ at2 Aw Aw2 ws ws2 cw cw2 _ hw hw2 (hR.below hb0) (hR2.below hb0))
    have HN := Lib.hid (hN.below hb0)
    have HN2 := Lib.hid (hN2.below hb0)
    rw [eqC_no HS.out] at HC
    clear hA1 hA2 hb0 hR hR2 hN hN2
    go_enter Try.func48, Try.ntmps48
    go_wp2_with fail
    generalize (w.alloc (.cells #[.bool on, .bool bad, .int .i64 at_, .slice Aw ws.length cw, .slice An ns.length cn, .bool skip, .bool gone, .string inb] 86)).alloc (.cells #[.bool on2, .bool bad2, .int .i64 at2, .slice Aw2 ws2.length cw2, .slice An2 ns2.length cn2, .bool skip2, .bool gone2, .string inb2] 86) = w0 at *
    refine HC.out.mono ?_
    rintro e w1 ⟨rfl, hb1⟩
    have HI := Lib.hid (HI.out.below hb1)
    have HN := Lib.hid (HN.out.below hb1)
    have HN2 := Lib.hid (HN2.out.below hb1)
    clear HC hb1
    have hbe := HI.out.2.2
    go_wp2
    go_ret
    exact ⟨ret_bool (eqC_no (fun h => HS.out (by simp only [Prod.mk.injEq] at h ⊢; exact ⟨h.1, h.2.1, h.2.2.1, h.2.2.2.1⟩))).symm, hbe⟩
  simp only [Prod.mk.injEq] at hs
  obtain ⟨rfl, rfl, rfl, rfl⟩ := hs
  by_cases hlen : ns.length = ns2.length
  case neg =>
    have HS := Lib.hid hlen
    have dn2 : ((ns.length : Int) != (ns2.length : Int)) = true := by simp; omega
    clear hlen
    have hb0 := ((Below.refl w.heap.size w).alloc (Nat.le_refl _) (.cells #[.bool on, .bool bad, .int .i64 at_, .slice Aw ws.length cw, .slice An ns.length cn, .bool skip, .bool gone, .string inb] 86)).alloc (by simp) (.cells #[.bool on, .bool bad, .int .i64 at_, .slice Aw2 ws.length cw2, .slice An2 ns2.length cn2, .bool skip2, .bool gone2, .string inb2] 86)
    have hA1 := (Blk.new w 86 #[.bool on, .bool bad, .int .i64 at_, .slice Aw ws.length cw, .slice An ns.length cn, .bool skip, .bool gone, .string inb]).alloc (.cells #[.bool on, .bool bad, .int .i64 at_, .slice Aw2 ws.length cw2, .slice An2 ns2.length cn2, .bool skip2, .bool gone2, .string inb2] 86)
    have hA2 := Blk.new (w.alloc (.cells #[.bool on, .bool bad, .int .i64 at_, .slice Aw ws.length cw, .slice An ns.length cn, .bool skip, .bool gone, .string inb] 86)) 86 #[.bool on, .bool bad, .int .i64 at_, .slice Aw2 ws.length cw2, .slice An2 ns2.length cn2, .bool skip2, .bool gone2, .string inb2]
    simp only [World.size_alloc] at hA2
    have HI := Lib.hid (show B2 86 w #[.bool on, .bool bad, .int .i64 at_, .slice Aw ws.length cw, .slice An ns.length cn, .bool skip, .bool gone, .string inb] #[.bool on, .bool bad, .int .i64 at_, .slice Aw2 ws.length cw2, .slice An2 ns2.length cn2, .bool skip2, .bool gone2, .string inb2] ((w.alloc (.cells #[.bool on, .bool bad, .int .i64 at_, .slice Aw ws.length cw, .slice An ns.length cn, .bool skip, .bool gone, .string inb] 86)).alloc (.cells #[.bool on, .bool bad, .int .i64 at_, .slice Aw2 ws.length cw2, .slice An2 ns2.length cn2, .bool skip2, .bool gone2, .string inb2] 86)) from ⟨hA1, hA2, hb0⟩)
    have HC := Lib.hid (specSeatSame_any on on bad bad at_ at_ Aw Aw2 ws ws cw cw2 _ hw hw (hR.below hb0) (hR2.below hb0))
    have HN := Lib.hid (hN.below hb0)
    have HN2 := Lib.hid (hN2.below hb0)
    rw [eqC_yes rfl] at HC
    clear hA1 hA2 hb0 hR hR2 hN hN2
    go_enter Try.func48, Try.ntmps48
    go_wp2_with fail
    generalize (w.alloc (.cells #[.bool on, .bool bad, .int .i64 at_, .slice Aw ws.length cw, .slice An ns.length cn, .bool skip, .bool gone, .string inb] 86)).alloc (.cells #[.bool on, .bool bad, .int .i64 at_, .slice Aw2 ws.length cw2, .slice An2 ns2.length cn2, .bool skip2, .bool gone2, .string inb2] 86) = w0 at *
    refine HC.out.mono ?_
    rintro e w1 ⟨rfl, hb1⟩
    have HI := Lib.hid (HI.out.below hb1)
    have HN := Lib.hid (HN.out.below hb1)
    have HN2 := Lib.hid (HN2.out.below hb1)
    clear HC hb1
    have r4 : w1.cell? ⟨w.heap.size, 4, none⟩ = some (.slice An ns.length cn) := HI.out.1.cell 4
    have s4 : w1.cell? ⟨w.heap.size + 1, 4, none⟩ = some (.slice An2 ns2.length cn2) := HI.out.2.1.cell 4
    have r5 : w1.cell? ⟨w.heap.size, 5, none⟩ = some (.bool skip) := HI.out.1.cell 5
    have s5 : w1.cell? ⟨w.heap.size + 1, 5, none⟩ = some (.bool skip2) := HI.out.2.1.cell 5
    have r6 : w1.cell? ⟨w.heap.size, 6, none⟩ = some (.bool gone) := HI.out.1.cell 6
    have s6 : w1.cell? ⟨w.heap.size + 1, 6, none⟩ = some (.bool gone2) := HI.out.2.1.cell 6
    have r7 : w1.cell? ⟨w.heap.size, 7, none⟩ = some (.string inb) := HI.out.1.cell 7
    have s7 : w1.cell? ⟨w.heap.size + 1, 7, none⟩ = some (.string inb2) := HI.out.2.1.cell 7
    have hbe := HI.out.2.2
    go_wp2
    go_ret
    exact ⟨ret_bool (eqC_no (fun h => HS.out (by simp only [Prod.mk.injEq, true_and] at h; rw [h.1]))).symm, hbe⟩
  have dl : ((ns.length : Int) != (ns2.length : Int)) = false := by simp [hlen]
  have HL := Lib.hid hlen
  clear hlen
  by_cases hs : skip = skip2
  case neg =>
    have HS := Lib.hid hs
    have dn : (skip == skip2) = false := by simpa using hs
    have dn2 : (skip != skip2) = true := by simpa using hs
    clear hs
    have hb0 := ((Below.refl w.heap.size w).alloc (Nat.le_refl _) (.cells #[.bool on, .bool bad, .int .i64 at_, .slice Aw ws.length cw, .slice An ns.length cn, .bool skip, .bool gone, .string inb] 86)).alloc (by simp) (.cells #[.bool on, .bool bad, .int .i64 at_, .slice Aw2 ws.length cw2, .slice An2 ns2.length cn2, .bool skip2, .bool gone2, .string inb2] 86)
    have hA1 := (Blk.new w 86 #[.bool on, .bool bad, .int .i64 at_, .slice Aw ws.length cw, .slice An ns.length cn, .bool skip, .bool gone, .string inb]).alloc (.cells #[.bool on, .bool bad, .int .i64 at_, .slice Aw2 ws.length cw2, .slice An2 ns2.length cn2, .bool skip2, .bool gone2, .string inb2] 86)
    have hA2 := Blk.new (w.alloc (.cells #[.bool on, .bool bad, .int .i64 at_, .slice Aw ws.length cw, .slice An ns.length cn, .bool skip, .bool gone, .string inb] 86)) 86 #[.bool on, .bool bad, .int .i64 at_, .slice Aw2 ws.length cw2, .slice An2 ns2.length cn2, .bool skip2, .bool gone2, .string inb2]
    simp only [World.size_alloc] at hA2
    have HI := Lib.hid (show B2 86 w #[.bool on, .bool bad, .int .i64 at_, .slice Aw ws.length cw, .slice An ns.length cn, .bool skip, .bool gone, .string inb] #[.bool on, .bool bad, .int .i64 at_, .slice Aw2 ws.length cw2, .slice An2 ns2.length cn2, .bool skip2, .bool gone2, .string inb2] ((w.alloc (.cells #[.bool on, .bool bad, .int .i64 at_, .slice Aw ws.length cw, .slice An ns.length cn, .bool skip, .bool gone, .string inb] 86)).alloc (.cells #[.bool on, .bool bad, .int .i64 at_, .slice Aw2 ws.length cw2, .slice An2 ns2.length cn2, .bool skip2, .bool gone2, .string inb2] 86)) from ⟨hA1, hA2, hb0⟩)
    have HC := Lib.hid (specSeatSame_any on on bad bad at_ at_ Aw Aw2 ws ws cw cw2 _ hw hw (hR.below hb0) (hR2.below hb0))
    have HN := Lib.hid (hN.below hb0)
    have HN2 := Lib.hid (hN2.below hb0)
    rw [eqC_yes rfl] at HC
    clear hA1 hA2 hb0 hR hR2 hN hN2
    go_enter Try.func48, Try.ntmps48
    go_wp2_with fail
    generalize (w.alloc (.cells #[.bool on, .bool bad, .int .i64 at_, .slice Aw ws.length cw, .slice An ns.length cn, .bool skip, .bool gone, .string inb] 86)).alloc (.cells #[.bool on, .bool bad, .int .i64 at_, .slice Aw2 ws.length cw2, .slice An2 ns2.length cn2, .bool skip2, .bool gone2, .string inb2] 86) = w0 at *
    refine HC.out.mono ?_
    rintro e w1 ⟨rfl, hb1⟩
    have HI := Lib.hid (HI.out.below hb1)
    have HN := Lib.hid (HN.out.below hb1)
    have HN2 := Lib.hid (HN2.out.below hb1)
    clear HC hb1
    have r4 : w1.cell? ⟨w.heap.size, 4, none⟩ = some (.slice An ns.length cn) := HI.out.1.cell 4
    have s4 : w1.cell? ⟨w.heap.size + 1, 4, none⟩ = some (.slice An2 ns2.length cn2) := HI.out.2.1.cell 4
    have r5 : w1.cell? ⟨w.heap.size, 5, none⟩ = some (.bool skip) := HI.out.1.cell 5
    have s5 : w1.cell? ⟨w.heap.size + 1, 5, none⟩ = some (.bool skip2) := HI.out.2.1.cell 5
    have r6 : w1.cell? ⟨w.heap.size, 6, none⟩ = some (.bool gone) := HI.out.1.cell 6
    have s6 : w1.cell? ⟨w.heap.size + 1, 6, none⟩ = some (.bool gone2) := HI.out.2.1.cell 6
    have r7 : w1.cell? ⟨w.heap.size, 7, none⟩ = some (.string inb) := HI.out.1.cell 7
    have s7 : w1.cell? ⟨w.heap.size + 1, 7, none⟩ = some (.string inb2) := HI.out.2.1.cell 7
    have hbe := HI.out.2.2
    go_wp2
    go_ret
    exact ⟨ret_bool (eqC_no (fun h => HS.out (by simp only [Prod.mk.injEq, true_and, and_true] at h; exact h.2.1))).symm, hbe⟩
  subst hs
  by_cases hs : gone = gone2
  case neg =>
    have HS := Lib.hid hs
    have dn : (gone == gone2) = false := by simpa using hs
    have dn2 : (gone != gone2) = true := by simpa using hs
    clear hs
    have hb0 := ((Below.refl w.heap.size w).alloc (Nat.le_refl _) (.cells #[.bool on, .bool bad, .int .i64 at_, .slice Aw ws.length cw, .slice An ns.length cn, .bool skip, .bool gone, .string inb] 86)).alloc (by simp) (.cells #[.bool on, .bool bad, .int .i64 at_, .slice Aw2 ws.length cw2, .slice An2 ns2.length cn2, .bool skip, .bool gone2, .string inb2] 86)
    have hA1 := (Blk.new w 86 #[.bool on, .bool bad, .int .i64 at_, .slice Aw ws.length cw, .slice An ns.length cn, .bool skip, .bool gone, .string inb]).alloc (.cells #[.bool on, .bool bad, .int .i64 at_, .slice Aw2 ws.length cw2, .slice An2 ns2.length cn2, .bool skip, .bool gone2, .string inb2] 86)
    have hA2 := Blk.new (w.alloc (.cells #[.bool on, .bool bad, .int .i64 at_, .slice Aw ws.length cw, .slice An ns.length cn, .bool skip, .bool gone, .string inb] 86)) 86 #[.bool on, .bool bad, .int .i64 at_, .slice Aw2 ws.length cw2, .slice An2 ns2.length cn2, .bool skip, .bool gone2, .string inb2]
    simp only [World.size_alloc] at hA2
    have HI := Lib.hid (show B2 86 w #[.bool on, .bool bad, .int .i64 at_, .slice Aw ws.length cw, .slice An ns.length cn, .bool skip, .bool gone, .string inb] #[.bool on, .bool bad, .int .i64 at_, .slice Aw2 ws.length cw2, .slice An2 ns2.length cn2, .bool skip, .bool gone2, .string inb2] ((w.alloc (.cells #[.bool on, .bool bad, .int .i64 at_, .slice Aw ws.length cw, .slice An ns.length cn, .bool skip, .bool gone, .string inb] 86)).alloc (.cells #[.bool on, .bool bad, .int .i64 at_, .slice Aw2 ws.length cw2, .slice An2 ns2.length cn2, .bool skip, .bool gone2, .string inb2] 86)) from ⟨hA1, hA2, hb0⟩)
    have HC := Lib.hid (specSeatSame_any on on bad bad at_ at_ Aw Aw2 ws ws cw cw2 _ hw hw (hR.below hb0) (hR2.below hb0))
    have HN := Lib.hid (hN.below hb0)
    have HN2 := Lib.hid (hN2.below hb0)
    rw [eqC_yes rfl] at HC
    clear hA1 hA2 hb0 hR hR2 hN hN2
    go_enter Try.func48, Try.ntmps48
    go_wp2_with fail
    generalize (w.alloc (.cells #[.bool on, .bool bad, .int .i64 at_, .slice Aw ws.length cw, .slice An ns.length cn, .bool skip, .bool gone, .string inb] 86)).alloc (.cells #[.bool on, .bool bad, .int .i64 at_, .slice Aw2 ws.length cw2, .slice An2 ns2.length cn2, .bool skip, .bool gone2, .string inb2] 86) = w0 at *
    refine HC.out.mono ?_
    rintro e w1 ⟨rfl, hb1⟩
    have HI := Lib.hid (HI.out.below hb1)
    have HN := Lib.hid (HN.out.below hb1)
    have HN2 := Lib.hid (HN2.out.below hb1)
    clear HC hb1
    have r4 : w1.cell? ⟨w.heap.size, 4, none⟩ = some (.slice An ns.length cn) := HI.out.1.cell 4
    have s4 : w1.cell? ⟨w.heap.size + 1, 4, none⟩ = some (.slice An2 ns2.length cn2) := HI.out.2.1.cell 4
    have r5 : w1.cell? ⟨w.heap.size, 5, none⟩ = some (.bool skip) := HI.out.1.cell 5
    have s5 : w1.cell? ⟨w.heap.size + 1, 5, none⟩ = some (.bool skip) := HI.out.2.1.cell 5
    have r6 : w1.cell? ⟨w.heap.size, 6, none⟩ = some (.bool gone) := HI.out.1.cell 6
    have s6 : w1.cell? ⟨w.heap.size + 1, 6, none⟩ = some (.bool gone2) := HI.out.2.1.cell 6
    have r7 : w1.cell? ⟨w.heap.size, 7, none⟩ = some (.string inb) := HI.out.1.cell 7
    have s7 : w1.cell? ⟨w.heap.size + 1, 7, none⟩ = some (.string inb2) := HI.out.2.1.cell 7
    have hbe := HI.out.2.2
    go_wp2
    go_ret
    exact ⟨ret_bool (eqC_no (fun h => HS.out (by simp only [Prod.mk.injEq, true_and, and_true] at h; exact h.2.1))).symm, hbe⟩
  subst hs
  by_cases hs : inb = inb2
  case neg =>
    have HS := Lib.hid hs
    have dn : (inb.toList == inb2.toList) = false := beq_eq_false_iff_ne.2 (fun h => hs ((bytes_eq_iff _ _).1 h))
    have dn2 : (inb.toList != inb2.toList) = true := by simp only [bne, dn]; rfl
    clear hs
    have hb0 := ((Below.refl w.heap.size w).alloc (Nat.le_refl _) (.cells #[.bool on, .bool bad, .int .i64 at_, .slice Aw ws.length cw, .slice An ns.length cn, .bool skip, .bool gone, .string inb] 86)).alloc (by simp) (.cells #[.bool on, .bool bad, .int .i64 at_, .slice Aw2 ws.length cw2, .slice An2 ns2.length cn2, .bool skip, .bool gone, .string inb2] 86)
    have hA1 := (Blk.new w 86 #[.bool on, .bool bad, .int .i64 at_, .slice Aw ws.length cw, .slice An ns.length cn, .bool skip, .bool gone, .string inb]).alloc (.cells #[.bool on, .bool bad, .int .i64 at_, .slice Aw2 ws.length cw2, .slice An2 ns2.length cn2, .bool skip, .bool gone, .string inb2] 86)
    have hA2 := Blk.new (w.alloc (.cells #[.bool on, .bool bad, .int .i64 at_, .slice Aw ws.length cw, .slice An ns.length cn, .bool skip, .bool gone, .string inb] 86)) 86 #[.bool on, .bool bad, .int .i64 at_, .slice Aw2 ws.length cw2, .slice An2 ns2.length cn2, .bool skip, .bool gone, .string inb2]
    simp only [World.size_alloc] at hA2
    have HI := Lib.hid (show B2 86 w #[.bool on, .bool bad, .int .i64 at_, .slice Aw ws.length cw, .slice An ns.length cn, .bool skip, .bool gone, .string inb] #[.bool on, .bool bad, .int .i64 at_, .slice Aw2 ws.length cw2, .slice An2 ns2.length cn2, .bool skip, .bool gone, .string inb2] ((w.alloc (.cells #[.bool on, .bool bad, .int .i64 at_, .slice Aw ws.length cw, .slice An ns.length cn, .bool skip, .bool gone, .string inb] 86)).alloc (.cells #[.bool on, .bool bad, .int .i64 at_, .slice Aw2 ws.length cw2, .slice An2 ns2.length cn2, .bool skip, .bool gone, .string inb2] 86)) from ⟨hA1, hA2, hb0⟩)
    have HC := Lib.hid (specSeatSame_any on on bad bad at_ at_ Aw Aw2 ws ws cw cw2 _ hw hw (hR.below hb0) (hR2.below hb0))
    have HN := Lib.hid (hN.below hb0)
    have HN2 := Lib.hid (hN2.below hb0)
    rw [eqC_yes rfl] at HC
    clear hA1 hA2 hb0 hR hR2 hN hN2
    go_enter Try.func48, Try.ntmps48
    go_wp2_with fail
    generalize (w.alloc (.cells #[.bool on, .bool bad, .int .i64 at_, .slice Aw ws.length cw, .slice An ns.length cn, .bool skip, .bool gone, .string inb] 86)).alloc (.cells #[.bool on, .bool bad, .int .i64 at_, .slice Aw2 ws.length cw2, .slice An2 ns2.length cn2, .bool skip, .bool gone, .string inb2] 86) = w0 at *
    refine HC.out.mono ?_
    rintro e w1 ⟨rfl, hb1⟩
    have HI := Lib.hid (HI.out.below hb1)
    have HN := Lib.hid (HN.out.below hb1)
    have HN2 := Lib.hid (HN2.out.below hb1)
    clear HC hb1
    have r4 : w1.cell? ⟨w.heap.size, 4, none⟩ = some (.slice An ns.length cn) := HI.out.1.cell 4
    have s4 : w1.cell? ⟨w.heap.size + 1, 4, none⟩ = some (.slice An2 ns2.length cn2) := HI.out.2.1.cell 4
    have r5 : w1.cell? ⟨w.heap.size, 5, none⟩ = some (.bool skip) := HI.out.1.cell 5
    have s5 : w1.cell? ⟨w.heap.size + 1, 5, none⟩ = some (.bool skip) := HI.out.2.1.cell 5
    have r6 : w1.cell? ⟨w.heap.size, 6, none⟩ = some (.bool gone) := HI.out.1.cell 6
    have s6 : w1.cell? ⟨w.heap.size + 1, 6, none⟩ = some (.bool gone) := HI.out.2.1.cell 6
    have r7 : w1.cell? ⟨w.heap.size, 7, none⟩ = some (.string inb) := HI.out.1.cell 7
    have s7 : w1.cell? ⟨w.heap.size + 1, 7, none⟩ = some (.string inb2) := HI.out.2.1.cell 7
    have hbe := HI.out.2.2
    go_wp2
    go_ret
    exact ⟨ret_bool (eqC_no (fun h => HS.out (by simp only [Prod.mk.injEq, true_and, and_true] at h; exact h.2))).symm, hbe⟩
  subst hs
  have hb0 := ((Below.refl w.heap.size w).alloc (Nat.le_refl _) (.cells #[.bool on, .bool bad, .int .i64 at_, .slice Aw ws.length cw, .slice An ns.length cn, .bool skip, .bool gone, .string inb] 86)).alloc (by simp) (.cells #[.bool on, .bool bad, .int .i64 at_, .slice Aw2 ws.length cw2, .slice An2 ns2.length cn2, .bool skip, .bool gone, .string inb] 86)
  have hA1 := (Blk.new w 86 #[.bool on, .bool bad, .int .i64 at_, .slice Aw ws.length cw, .slice An ns.length cn, .bool skip, .bool gone, .string inb]).alloc (.cells #[.bool on, .bool bad, .int .i64 at_, .slice Aw2 ws.length cw2, .slice An2 ns2.length cn2, .bool skip, .bool gone, .string inb] 86)
  have hA2 := Blk.new (w.alloc (.cells #[.bool on, .bool bad, .int .i64 at_, .slice Aw ws.length cw, .slice An ns.length cn, .bool skip, .bool gone, .string inb] 86)) 86 #[.bool on, .bool bad, .int .i64 at_, .slice Aw2 ws.length cw2, .slice An2 ns2.length cn2, .bool skip, .bool gone, .string inb]
  simp only [World.size_alloc] at hA2
  have HI := Lib.hid (show B2 86 w #[.bool on, .bool bad, .int .i64 at_, .slice Aw ws.length cw, .slice An ns.length cn, .bool skip, .bool gone, .string inb] #[.bool on, .bool bad, .int .i64 at_, .slice Aw2 ws.length cw2, .slice An2 ns2.length cn2, .bool skip, .bool gone, .string inb] ((w.alloc (.cells #[.bool on, .bool bad, .int .i64 at_, .slice Aw ws.length cw, .slice An ns.length cn, .bool skip, .bool gone, .string inb] 86)).alloc (.cells #[.bool on, .bool bad, .int .i64 at_, .slice Aw2 ws.length cw2, .slice An2 ns2.length cn2, .bool skip, .bool gone, .string inb] 86)) from ⟨hA1, hA2, hb0⟩)
  have HC := Lib.hid (specSeatSame_any on on bad bad at_ at_ Aw Aw2 ws ws cw cw2 _ hw hw (hR.below hb0) (hR2.below hb0))
  have HN := Lib.hid (hN.below hb0)
  have HN2 := Lib.hid (hN2.below hb0)
  rw [eqC_yes rfl] at HC
  clear hA1 hA2 hb0 hR hR2 hN hN2
  go_enter Try.func48, Try.ntmps48
  go_wp2_with fail
  generalize (w.alloc (.cells #[.bool on, .bool bad, .int .i64 at_, .slice Aw ws.length cw, .slice An ns.length cn, .bool skip, .bool gone, .string inb] 86)).alloc (.cells #[.bool on, .bool bad, .int .i64 at_, .slice Aw2 ws.length cw2, .slice An2 ns2.length cn2, .bool skip, .bool gone, .string inb] 86) = w0 at *
  refine HC.out.mono ?_
  rintro e w1 ⟨rfl, hb1⟩
  have HI := Lib.hid (HI.out.below hb1)
  have HN := Lib.hid (HN.out.below hb1)
  have HN2 := Lib.hid (HN2.out.below hb1)
  clear HC hb1
  have r4 : w1.cell? ⟨w.heap.size, 4, none⟩ = some (.slice An ns.length cn) := HI.out.1.cell 4
  have s4 : w1.cell? ⟨w.heap.size + 1, 4, none⟩ = some (.slice An2 ns2.length cn2) := HI.out.2.1.cell 4
  have r5 : w1.cell? ⟨w.heap.size, 5, none⟩ = some (.bool skip) := HI.out.1.cell 5
  have s5 : w1.cell? ⟨w.heap.size + 1, 5, none⟩ = some (.bool skip) := HI.out.2.1.cell 5
  have r6 : w1.cell? ⟨w.heap.size, 6, none⟩ = some (.bool gone) := HI.out.1.cell 6
  have s6 : w1.cell? ⟨w.heap.size + 1, 6, none⟩ = some (.bool gone) := HI.out.2.1.cell 6
  have r7 : w1.cell? ⟨w.heap.size, 7, none⟩ = some (.string inb) := HI.out.1.cell 7
  have s7 : w1.cell? ⟨w.heap.size + 1, 7, none⟩ = some (.string inb) := HI.out.2.1.cell 7
  go_wp2
  go_loopw [5] (fun i wr => ∃ k : Nat, k ≤ ns.length ∧ i = .int .i64 k ∧ Hid (ns.take k = ns2.take k) ∧ Hid (B2 86 w #[.bool on, .bool bad, .int .i64 at_, .slice Aw ws.length cw, .slice An ns.length cn, .bool skip, .bool gone, .string inb] #[.bool on, .bool bad, .int .i64 at_, .slice Aw2 ws.length cw2, .slice An2 ns2.length cn2, .bool skip, .bool gone, .string inb] wr) ∧ Hid (Sl encNm 5 wr An ns) ∧ Hid (Sl encNm 5 wr An2 ns2)) (fun i _ => ns.length - (intOf i).toNat)
  case atStart => exact ⟨0, by omega, rfl, Lib.hid rfl, HI, HN, HN2⟩
  case round =>
    clear HI HN HN2 r4 r5 r6 r7 s4 s5 s6 s7
    obtain ⟨k, hk, rfl, HE, HI, HN, HN2⟩ := hrel
    have r4 : wr.cell? ⟨w.heap.size, 4, none⟩ = some (.slice An ns.length cn) := HI.out.1.cell 4
    have s4 : wr.cell? ⟨w.heap.size + 1, 4, none⟩ = some (.slice An2 ns2.length cn2) := HI.out.2.1.cell 4
    by_cases hlt2 : k < ns.length
    · have h2 : k < ns2.length := HL.out ▸ hlt2
      obtain ⟨b, o, rfl, hbl, p0_, p1_, p2_, p3_, p4_⟩ := Sl.at5 HN.out hlt2
      obtain ⟨b2, o2, rfl, hbl2, q0_, q1_, q2_, q3_, q4_⟩ := Sl.at5 HN2.out h2
      generalize hx : ns[k] = x at *
      generalize hy : ns2[k] = y at *
      have HX := Lib.hid hx
      have HY := Lib.hid hy
      have hki : (k : Int) < (ns.length : Int) := by omega
      have hki2 : (k : Int) < (ns2.length : Int) := by omega
      have hg1 := HI.out.1.lt
      have hg2 := HI.out.2.1.lt
      clear hx hy
      by_cases hxy : x = y
      · have HXY := Lib.hid hxy
        subst hxy
        obtain ⟨xk, xi, xa, xb, xn⟩ := x
        simp only at p0_ p1_ p2_ p3_ p4_ q0_ q1_ q2_ q3_ q4_
        go_wp2_with fail
        refine wp_region_below (by kernel_rfl) (by kernel_rfl) ?_
        iterate 11 (refine wpQuiet_step (fun K hK => ?_); go_simp; first | (apply Exists.intro; refine ⟨fun W hW => ?_, hK _ ?_⟩; (first | rfl | (have r4x := (hW.cell (p := ⟨w.heap.size, 4, none⟩) hg1).trans r4; have s4x := (hW.cell (p := ⟨w.heap.size + 1, 4, none⟩) hg2).trans s4; have e0 := (hW.cell (p := ⟨b, o + k * 5, none⟩) hbl).trans p0_; have e1 := (hW.cell (p := ⟨b, o + k * 5 + 1, none⟩) hbl).trans p1_; have e2 := (hW.cell (p := ⟨b, o + k * 5 + 2, none⟩) hbl).trans p2_; have e3 := (hW.cell (p := ⟨b, o + k * 5 + 3, none⟩) hbl).trans p3_; have e4 := (hW.cell (p := ⟨b, o + k * 5 + 4, none⟩) hbl).trans p4_; have f0 := (hW.cell (p := ⟨b2, o2 + k * 5, none⟩) hbl2).trans q0_; have f1 := (hW.cell (p := ⟨b2, o2 + k * 5 + 1, none⟩) hbl2).trans q1_; have f2 := (hW.cell (p := ⟨b2, o2 + k * 5 + 2, none⟩) hbl2).trans q2_; have f3 := (hW.cell (p := ⟨b2, o2 + k * 5 + 3, none⟩) hbl2).trans q3_; have f4 := (hW.cell (p := ⟨b2, o2 + k * 5 + 4, none⟩) hbl2).trans q4_; go_simp; rfl)); clear hK K) | (refine hK _ ?_; clear hK K))
        refine wpQuiet_nil ?_
        intro W hW
        have HI := Lib.hid (HI.out.below hW)
        have HN := Lib.hid (HN.out.below hW)
        have HN2 := Lib.hid (HN2.out.below hW)
        go_wp2
        go_roundw
        case rel => exact ⟨k+1, by omega, by go_num, Lib.hid (by rw [List.take_succ_eq_append_getElem hlt2, List.take_succ_eq_append_getElem h2, HE.out, HX.out, HY.out]), HI, HN, HN2⟩
        case measure => simp [intOf]; omega
      · have HXY := Lib.hid hxy
        obtain ⟨xk, xi, xa, xb, xn⟩ := x
        obtain ⟨yk, yi, ya, yb, yn⟩ := y
        simp only at p0_ p1_ p2_ p3_ p4_ q0_ q1_ q2_ q3_ q4_
        by_cases m0_ : xk.toList = yk.toList
        case neg =>
          clear hxy
          go_wp2_with fail
          refine wp_region_below (by kernel_rfl) (by kernel_rfl) ?_
          iterate 11 (refine wpQuiet_step (fun K hK => ?_); go_simp; first | (apply Exists.intro; refine ⟨fun W hW => ?_, hK _ ?_⟩; (first | rfl | (have r4x := (hW.cell (p := ⟨w.heap.size, 4, none⟩) hg1).trans r4; have s4x := (hW.cell (p := ⟨w.heap.size + 1, 4, none⟩) hg2).trans s4; have e0 := (hW.cell (p := ⟨b, o + k * 5, none⟩) hbl).trans p0_; have e1 := (hW.cell (p := ⟨b, o + k * 5 + 1, none⟩) hbl).trans p1_; have e2 := (hW.cell (p := ⟨b, o + k * 5 + 2, none⟩) hbl).trans p2_; have e3 := (hW.cell (p := ⟨b, o + k * 5 + 3, none⟩) hbl).trans p3_; have e4 := (hW.cell (p := ⟨b, o + k * 5 + 4, none⟩) hbl).trans p4_; have f0 := (hW.cell (p := ⟨b2, o2 + k * 5, none⟩) hbl2).trans q0_; have f1 := (hW.cell (p := ⟨b2, o2 + k * 5 + 1, none⟩) hbl2).trans q1_; have f2 := (hW.cell (p := ⟨b2, o2 + k * 5 + 2, none⟩) hbl2).trans q2_; have f3 := (hW.cell (p := ⟨b2, o2 + k * 5 + 3, none⟩) hbl2).trans q3_; have f4 := (hW.cell (p := ⟨b2, o2 + k * 5 + 4, none⟩) hbl2).trans q4_; go_simp; rfl)); clear hK K) | (refine hK _ ?_; clear hK K))
          refine wpQuiet_nil ?_
          intro W hW
          have hb' := (HI.out.below hW).2.2
          go_wp2
          go_ret
          exact ⟨ret_bool (eqC_no (fun h => list_ne_at hlt2 h2 (by rw [HX.out, HY.out]; exact HXY.out) (by simp only [Prod.mk.injEq, true_and, and_true] at h; exact h))).symm, hb'⟩
        by_cases m1_ : xi = yi
        case neg =>
          clear hxy
          go_wp2_with fail
          refine wp_region_below (by kernel_rfl) (by kernel_rfl) ?_
          iterate 11 (refine wpQuiet_step (fun K hK => ?_); go_simp; first | (apply Exists.intro; refine ⟨fun W hW => ?_, hK _ ?_⟩; (first | rfl | (have r4x := (hW.cell (p := ⟨w.heap.size, 4, none⟩) hg1).trans r4; have s4x := (hW.cell (p := ⟨w.heap.size + 1, 4, none⟩) hg2).trans s4; have e0 := (hW.cell (p := ⟨b, o + k * 5, none⟩) hbl).trans p0_; have e1 := (hW.cell (p := ⟨b, o + k * 5 + 1, none⟩) hbl).trans p1_; have e2 := (hW.cell (p := ⟨b, o + k * 5 + 2, none⟩) hbl).trans p2_; have e3 := (hW.cell (p := ⟨b, o + k * 5 + 3, none⟩) hbl).trans p3_; have e4 := (hW.cell (p := ⟨b, o + k * 5 + 4, none⟩) hbl).trans p4_; have f0 := (hW.cell (p := ⟨b2, o2 + k * 5, none⟩) hbl2).trans q0_; have f1 := (hW.cell (p := ⟨b2, o2 + k * 5 + 1, none⟩) hbl2).trans q1_; have f2 := (hW.cell (p := ⟨b2, o2 + k * 5 + 2, none⟩) hbl2).trans q2_; have f3 := (hW.cell (p := ⟨b2, o2 + k * 5 + 3, none⟩) hbl2).trans q3_; have f4 := (hW.cell (p := ⟨b2, o2 + k * 5 + 4, none⟩) hbl2).trans q4_; go_simp; rfl)); clear hK K) | (refine hK _ ?_; clear hK K))
          refine wpQuiet_nil ?_
          intro W hW
          have hb' := (HI.out.below hW).2.2
          go_wp2
          go_ret
          exact ⟨ret_bool (eqC_no (fun h => list_ne_at hlt2 h2 (by rw [HX.out, HY.out]; exact HXY.out) (by simp only [Prod.mk.injEq, true_and, and_true] at h; exact h))).symm, hb'⟩
        by_cases m2_ : xa.toList = ya.toList
        case neg =>
          clear hxy
          go_wp2_with fail
          refine wp_region_below (by kernel_rfl) (by kernel_rfl) ?_
          iterate 11 (refine wpQuiet_step (fun K hK => ?_); go_simp; first | (apply Exists.intro; refine ⟨fun W hW => ?_, hK _ ?_⟩; (first | rfl | (have r4x := (hW.cell (p := ⟨w.heap.size, 4, none⟩) hg1).trans r4; have s4x := (hW.cell (p := ⟨w.heap.size + 1, 4, none⟩) hg2).trans s4; have e0 := (hW.cell (p := ⟨b, o + k * 5, none⟩) hbl).trans p0_; have e1 := (hW.cell (p := ⟨b, o + k * 5 + 1, none⟩) hbl).trans p1_; have e2 := (hW.cell (p := ⟨b, o + k * 5 + 2, none⟩) hbl).trans p2_; have e3 := (hW.cell (p := ⟨b, o + k * 5 + 3, none⟩) hbl).trans p3_; have e4 := (hW.cell (p := ⟨b, o + k * 5 + 4, none⟩) hbl).trans p4_; have f0 := (hW.cell (p := ⟨b2, o2 + k * 5, none⟩) hbl2).trans q0_; have f1 := (hW.cell (p := ⟨b2, o2 + k * 5 + 1, none⟩) hbl2).trans q1_; have f2 := (hW.cell (p := ⟨b2, o2 + k * 5 + 2, none⟩) hbl2).trans q2_; have f3 := (hW.cell (p := ⟨b2, o2 + k * 5 + 3, none⟩) hbl2).trans q3_; have f4 := (hW.cell (p := ⟨b2, o2 + k * 5 + 4, none⟩) hbl2).trans q4_; go_simp; rfl)); clear hK K) | (refine hK _ ?_; clear hK K))
          refine wpQuiet_nil ?_
          intro W hW
          have hb' := (HI.out.below hW).2.2
          go_wp2
          go_ret
          exact ⟨ret_bool (eqC_no (fun h => list_ne_at hlt2 h2 (by rw [HX.out, HY.out]; exact HXY.out) (by simp only [Prod.mk.injEq, true_and, and_true] at h; exact h))).symm, hb'⟩
        by_cases m3_ : xb.toList = yb.toList
        case neg =>
          clear hxy
          go_wp2_with fail
          refine wp_region_below (by kernel_rfl) (by kernel_rfl) ?_
          iterate 11 (refine wpQuiet_step (fun K hK => ?_); go_simp; first | (apply Exists.intro; refine ⟨fun W hW => ?_, hK _ ?_⟩; (first | rfl | (have r4x := (hW.cell (p := ⟨w.heap.size, 4, none⟩) hg1).trans r4; have s4x := (hW.cell (p := ⟨w.heap.size + 1, 4, none⟩) hg2).trans s4; have e0 := (hW.cell (p := ⟨b, o + k * 5, none⟩) hbl).trans p0_; have e1 := (hW.cell (p := ⟨b, o + k * 5 + 1, none⟩) hbl).trans p1_; have e2 := (hW.cell (p := ⟨b, o + k * 5 + 2, none⟩) hbl).trans p2_; have e3 := (hW.cell (p := ⟨b, o + k * 5 + 3, none⟩) hbl).trans p3_; have e4 := (hW.cell (p := ⟨b, o + k * 5 + 4, none⟩) hbl).trans p4_; have f0 := (hW.cell (p := ⟨b2, o2 + k * 5, none⟩) hbl2).trans q0_; have f1 := (hW.cell (p := ⟨b2, o2 + k * 5 + 1, none⟩) hbl2).trans q1_; have f2 := (hW.cell (p := ⟨b2, o2 + k * 5 + 2, none⟩) hbl2).trans q2_; have f3 := (hW.cell (p := ⟨b2, o2 + k * 5 + 3, none⟩) hbl2).trans q3_; have f4 := (hW.cell (p := ⟨b2, o2 + k * 5 + 4, none⟩) hbl2).trans q4_; go_simp; rfl)); clear hK K) | (refine hK _ ?_; clear hK K))
          refine wpQuiet_nil ?_
          intro W hW
          have hb' := (HI.out.below hW).2.2
          go_wp2
          go_ret
          exact ⟨ret_bool (eqC_no (fun h => list_ne_at hlt2 h2 (by rw [HX.out, HY.out]; exact HXY.out) (by simp only [Prod.mk.injEq, true_and, and_true] at h; exact h))).symm, hb'⟩
        have p4_ne : ¬ xn = yn := fun h => hxy (by rw [(bytes_eq_iff _ _).1 m0_]; rw [m1_]; rw [(bytes_eq_iff _ _).1 m2_]; rw [(bytes_eq_iff _ _).1 m3_]; rw [h])
        clear hxy
        go_wp2_with fail
        refine wp_region_below (by kernel_rfl) (by kernel_rfl) ?_
        iterate 11 (refine wpQuiet_step (fun K hK => ?_); go_simp; first | (apply Exists.intro; refine ⟨fun W hW => ?_, hK _ ?_⟩; (first | rfl | (have r4x := (hW.cell (p := ⟨w.heap.size, 4, none⟩) hg1).trans r4; have s4x := (hW.cell (p := ⟨w.heap.size + 1, 4, none⟩) hg2).trans s4; have e0 := (hW.cell (p := ⟨b, o + k * 5, none⟩) hbl).trans p0_; have e1 := (hW.cell (p := ⟨b, o + k * 5 + 1, none⟩) hbl).trans p1_; have e2 := (hW.cell (p := ⟨b, o + k * 5 + 2, none⟩) hbl).trans p2_; have e3 := (hW.cell (p := ⟨b, o + k * 5 + 3, none⟩) hbl).trans p3_; have e4 := (hW.cell (p := ⟨b, o + k * 5 + 4, none⟩) hbl).trans p4_; have f0 := (hW.cell (p := ⟨b2, o2 + k * 5, none⟩) hbl2).trans q0_; have f1 := (hW.cell (p := ⟨b2, o2 + k * 5 + 1, none⟩) hbl2).trans q1_; have f2 := (hW.cell (p := ⟨b2, o2 + k * 5 + 2, none⟩) hbl2).trans q2_; have f3 := (hW.cell (p := ⟨b2, o2 + k * 5 + 3, none⟩) hbl2).trans q3_; have f4 := (hW.cell (p := ⟨b2, o2 + k * 5 + 4, none⟩) hbl2).trans q4_; go_simp; rfl)); clear hK K) | (refine hK _ ?_; clear hK K))
        refine wpQuiet_nil ?_
        intro W hW
        have hb' := (HI.out.below hW).2.2
        go_wp2
        go_ret
        exact ⟨ret_bool (eqC_no (fun h => list_ne_at hlt2 h2 (by rw [HX.out, HY.out]; exact HXY.out) (by simp only [Prod.mk.injEq, true_and, and_true] at h; exact h))).symm, hb'⟩
    · obtain rfl : k = ns.length := by omega
      have he := HE.out
      have hbe := HI.out.2.2
      go_wp2
      go_ret
      exact ⟨ret_bool (eqC_yes (by rw [show ns = ns2 by rw [← List.take_length (l := ns), he, HL.out, List.take_length]])).symm, hbe⟩
end Go.Proofs.Yteanjfjlmpgnnaa
