/- The laws' equality of those who talk, where they hold the same. -/
import Derived.Test.YteanjfjlmpgnnaaTkS
import Derived.Test.YteanjfjlmpgnnaaVrEq
namespace Go.Proofs.Yteanjfjlmpgnnaa
open Go.RowKit
set_option maxRecDepth 100000 in
set_option maxHeartbeats 1000000 in
theorem eqAsk_same (x : AskV) (w : World) :
    Calls Try.prog 184 #[.agg #[.int .i64 x.1, .string x.2.1, .string x.2.2.1, .int .i64 x.2.2.2], .agg #[.int .i64 x.1, .string x.2.1, .string x.2.2.1, .int .i64 x.2.2.2]] w fun e w' => e = .returned (.bool true) ∧ Below w.heap.size w w' := by
  have hbl : Below w.heap.size w ((w.alloc (.cells #[.int .i64 x.1, .string x.2.1, .string x.2.2.1, .int .i64 x.2.2.2] 135)).alloc (.cells #[.int .i64 x.1, .string x.2.1, .string x.2.2.1, .int .i64 x.2.2.2] 135)) := ((Below.refl _ _).alloc (Nat.le_refl _) _).alloc (by simp) _
  go_enter Try.func184, Try.ntmps184
  go_wp2
  go_ret
  exact ⟨rfl, hbl⟩
set_option maxRecDepth 100000 in
set_option maxHeartbeats 2000000 in
theorem eqNamed_same (x : Nm) (w : World) :
    Calls Try.prog 162 #[.agg #[.string x.1, .int .i64 x.2.1, .string x.2.2.1, .string x.2.2.2.1, .int .i64 x.2.2.2.2], .agg #[.string x.1, .int .i64 x.2.1, .string x.2.2.1, .string x.2.2.2.1, .int .i64 x.2.2.2.2]] w fun e w' => e = .returned (.bool true) ∧ Below w.heap.size w w' := by
  have hb0 := ((Below.refl w.heap.size w).alloc (Nat.le_refl _) (.cells #[.string x.1, .int .i64 x.2.1, .string x.2.2.1, .string x.2.2.2.1, .int .i64 x.2.2.2.2] 137)).alloc (by simp) (.cells #[.string x.1, .int .i64 x.2.1, .string x.2.2.1, .string x.2.2.2.1, .int .i64 x.2.2.2.2] 137)
  have hA1 := (Blk.new w 137 #[.string x.1, .int .i64 x.2.1, .string x.2.2.1, .string x.2.2.2.1, .int .i64 x.2.2.2.2]).alloc (.cells #[.string x.1, .int .i64 x.2.1, .string x.2.2.1, .string x.2.2.2.1, .int .i64 x.2.2.2.2] 137)
  have hA2 := Blk.new (w.alloc (.cells #[.string x.1, .int .i64 x.2.1, .string x.2.2.1, .string x.2.2.2.1, .int .i64 x.2.2.2.2] 137)) 137 #[.string x.1, .int .i64 x.2.1, .string x.2.2.1, .string x.2.2.2.1, .int .i64 x.2.2.2.2]
  simp only [World.size_alloc] at hA2
  have hsz : ((w.alloc (.cells #[.string x.1, .int .i64 x.2.1, .string x.2.2.1, .string x.2.2.2.1, .int .i64 x.2.2.2.2] 137)).alloc (.cells #[.string x.1, .int .i64 x.2.1, .string x.2.2.1, .string x.2.2.2.1, .int .i64 x.2.2.2.2] 137)).heap.size = w.heap.size + 2 := by simp
  go_enter Try.func162, Try.ntmps162
  go_wp2_with fail
  generalize (w.alloc (.cells #[.string x.1, .int .i64 x.2.1, .string x.2.2.1, .string x.2.2.2.1, .int .i64 x.2.2.2.2] 137)).alloc (.cells #[.string x.1, .int .i64 x.2.1, .string x.2.2.1, .string x.2.2.2.1, .int .i64 x.2.2.2.2] 137) = u1 at *
  refine (eqAsk_same x.2 u1).mono ?_
  rintro e w1 ⟨he1, hb1⟩
  try rw [eqB_yes rfl] at he1
  subst he1
  have hbt1 := bthen hb0 hb1
  have hC1_1 := hA1.kept hb1
  have hC1_2 := hA2.kept hb1
  go_wp2
  go_ret
  exact ⟨rfl, hbt1⟩
set_option maxRecDepth 100000 in
set_option maxHeartbeats 2000000 in
theorem eqNamedS_same (A A2 : Option Addr) (l : List Nm) (c c2 : Nat) (w : World) (hn : l.length ≤ 1048576) (hS : Sl encNm 5 w A l) (hS2 : Sl encNm 5 w A2 l) :
    Calls Try.prog 139 #[.slice A l.length c, .slice A2 l.length c2] w fun e w' => e = .returned (.bool true) ∧ Below w.heap.size w w' := by
  go_enter Try.func139, Try.ntmps139
  go_wp2
  go_loopw [5] (fun i wr => ∃ k : Nat, k ≤ l.length ∧ i = .int .i64 k ∧ Below w.heap.size w wr) (fun i _ => l.length - (intOf i).toNat)
  case atStart => exact ⟨0, by omega, rfl, Below.refl _ _⟩
  case round =>
    obtain ⟨k, hk, rfl, hb⟩ := hrel
    by_cases hlt : k < l.length
    · obtain ⟨b, o, rfl, hbl, c0, c1, c2', c3, c4⟩ := Sl.at5 (hS.below hb) hlt
      obtain ⟨b2, o2, rfl, hbl2, d0, d1, d2, d3, d4⟩ := Sl.at5 (hS2.below hb) hlt
      generalize l[k] = x at *
      have hki : (k : Int) < (l.length : Int) := by omega
      clear hS hS2
      go_wp2_with fail
      refine wp_region_below (by kernel_rfl) (by kernel_rfl) ?_
      iterate 10 (refine wpQuiet_step (fun K hK => ?_); go_simp; first | (apply Exists.intro; refine ⟨fun W hW => ?_, hK _ ?_⟩; (first | rfl | (go_at_call 162; exact quiet_call hW (Nat.le_refl _) (eqNamed_same x _)) | (have e0 := (hW.cell (p := ⟨b, o + k * 5, none⟩) hbl).trans c0; have e1 := (hW.cell (p := ⟨b, o + k * 5 + 1, none⟩) hbl).trans c1; have e2 := (hW.cell (p := ⟨b, o + k * 5 + 2, none⟩) hbl).trans c2'; have e3 := (hW.cell (p := ⟨b, o + k * 5 + 3, none⟩) hbl).trans c3; have e4 := (hW.cell (p := ⟨b, o + k * 5 + 4, none⟩) hbl).trans c4; have f0 := (hW.cell (p := ⟨b2, o2 + k * 5, none⟩) hbl2).trans d0; have f1 := (hW.cell (p := ⟨b2, o2 + k * 5 + 1, none⟩) hbl2).trans d1; have f2 := (hW.cell (p := ⟨b2, o2 + k * 5 + 2, none⟩) hbl2).trans d2; have f3 := (hW.cell (p := ⟨b2, o2 + k * 5 + 3, none⟩) hbl2).trans d3; have f4 := (hW.cell (p := ⟨b2, o2 + k * 5 + 4, none⟩) hbl2).trans d4; go_simp; rfl)); clear hK K) | (refine hK _ ?_; clear hK K))
      refine wpQuiet_nil ?_
      intro W hW
      have hb' := bthen hb hW
      go_wp2
      go_roundw
      case rel => exact ⟨k + 1, by omega, by go_num, hb'⟩
      case measure => simp [intOf]; omega
    · obtain rfl : k = l.length := by omega
      go_wp2
      go_ret
      exact ⟨rfl, hb⟩
set_option maxRecDepth 100000 in
set_option maxHeartbeats 2000000 in
theorem eqWork_same (at_ : Int) (A A2 : Option Addr) (l : List Wri) (c c2 : Nat) (w : World) (hn : l.length ≤ maxLen) (hS : Sl encWri 3 w A l) (hS2 : Sl encWri 3 w A2 l) :
    Calls Try.prog 161 #[.agg #[.int .i64 at_, .slice A l.length c], .agg #[.int .i64 at_, .slice A2 l.length c2]] w fun e w' => e = .returned (.bool true) ∧ Below w.heap.size w w' := by
  have hb0 := ((Below.refl w.heap.size w).alloc (Nat.le_refl _) (.cells #[.int .i64 at_, .slice A l.length c] 81)).alloc (by simp) (.cells #[.int .i64 at_, .slice A2 l.length c2] 81)
  have hA1 := (Blk.new w 81 #[.int .i64 at_, .slice A l.length c]).alloc (.cells #[.int .i64 at_, .slice A2 l.length c2] 81)
  have hA2 := Blk.new (w.alloc (.cells #[.int .i64 at_, .slice A l.length c] 81)) 81 #[.int .i64 at_, .slice A2 l.length c2]
  simp only [World.size_alloc] at hA2
  have hsz : ((w.alloc (.cells #[.int .i64 at_, .slice A l.length c] 81)).alloc (.cells #[.int .i64 at_, .slice A2 l.length c2] 81)).heap.size = w.heap.size + 2 := by simp
  go_enter Try.func161, Try.ntmps161
  go_wp2_with fail
  generalize (w.alloc (.cells #[.int .i64 at_, .slice A l.length c] 81)).alloc (.cells #[.int .i64 at_, .slice A2 l.length c2] 81) = u1 at *
  refine (eqWriteS_any A A2 l l c c2 u1 hn hn (hS.below hb0) (hS2.below hb0)).mono ?_
  rintro e w1 ⟨he1, hb1⟩
  try rw [eqB_yes rfl] at he1
  subst he1
  have hbt1 := bthen hb0 hb1
  have hC1_1 := hA1.kept hb1
  have hC1_2 := hA2.kept hb1
  go_wp2
  go_ret
  exact ⟨rfl, hbt1⟩
set_option maxRecDepth 100000 in
set_option maxHeartbeats 2000000 in
theorem eqSeat_same (on bad : Bool) (at_ : Int) (A A2 : Option Addr) (l : List Wri) (c c2 : Nat) (w : World) (hn : l.length ≤ maxLen) (hS : Sl encWri 3 w A l) (hS2 : Sl encWri 3 w A2 l) :
    Calls Try.prog 138 #[.agg #[.bool on, .bool bad, .int .i64 at_, .slice A l.length c], .agg #[.bool on, .bool bad, .int .i64 at_, .slice A2 l.length c2]] w fun e w' => e = .returned (.bool true) ∧ Below w.heap.size w w' := by
  have hb0 := ((Below.refl w.heap.size w).alloc (Nat.le_refl _) (.cells #[.bool on, .bool bad, .int .i64 at_, .slice A l.length c] 83)).alloc (by simp) (.cells #[.bool on, .bool bad, .int .i64 at_, .slice A2 l.length c2] 83)
  have hA1 := (Blk.new w 83 #[.bool on, .bool bad, .int .i64 at_, .slice A l.length c]).alloc (.cells #[.bool on, .bool bad, .int .i64 at_, .slice A2 l.length c2] 83)
  have hA2 := Blk.new (w.alloc (.cells #[.bool on, .bool bad, .int .i64 at_, .slice A l.length c] 83)) 83 #[.bool on, .bool bad, .int .i64 at_, .slice A2 l.length c2]
  simp only [World.size_alloc] at hA2
  have hsz : ((w.alloc (.cells #[.bool on, .bool bad, .int .i64 at_, .slice A l.length c] 83)).alloc (.cells #[.bool on, .bool bad, .int .i64 at_, .slice A2 l.length c2] 83)).heap.size = w.heap.size + 2 := by simp
  go_enter Try.func138, Try.ntmps138
  go_wp2_with fail
  generalize (w.alloc (.cells #[.bool on, .bool bad, .int .i64 at_, .slice A l.length c] 83)).alloc (.cells #[.bool on, .bool bad, .int .i64 at_, .slice A2 l.length c2] 83) = u1 at *
  refine (eqWork_same at_ A A2 l c c2 u1 hn (hS.below hb0) (hS2.below hb0)).mono ?_
  rintro e w1 ⟨he1, hb1⟩
  try rw [eqB_yes rfl] at he1
  subst he1
  have hbt1 := bthen hb0 hb1
  have hC1_1 := hA1.kept hb1
  have hC1_2 := hA2.kept hb1
  go_wp2
  go_ret
  exact ⟨rfl, hbt1⟩
set_option maxRecDepth 100000 in
set_option maxHeartbeats 2000000 in
theorem eqTalk_same (on bad : Bool) (at_ : Int) (Aw Aw2 : Option Addr) (cw cw2 : Nat) (ws : List Wri) (An An2 : Option Addr) (cn cn2 : Nat) (ns : List Nm) (skip gone : Bool) (inb : ByteArray) (w : World) (hw : ws.length ≤ 1048576) (hn : ns.length ≤ 1048576) (hR : Sl encWri 3 w Aw ws) (hR2 : Sl encWri 3 w Aw2 ws) (hN : Sl encNm 5 w An ns) (hN2 : Sl encNm 5 w An2 ns) :
    Calls Try.prog 89 #[.agg #[.bool on, .bool bad, .int .i64 at_, .slice Aw ws.length cw, .slice An ns.length cn, .bool skip, .bool gone, .string inb], .agg #[.bool on, .bool bad, .int .i64 at_, .slice Aw2 ws.length cw2, .slice An2 ns.length cn2, .bool skip, .bool gone, .string inb]] w fun e w' => e = .returned (.bool true) ∧ Below w.heap.size w w' := by
  have hb0 := ((Below.refl w.heap.size w).alloc (Nat.le_refl _) (.cells #[.bool on, .bool bad, .int .i64 at_, .slice Aw ws.length cw, .slice An ns.length cn, .bool skip, .bool gone, .string inb] 86)).alloc (by simp) (.cells #[.bool on, .bool bad, .int .i64 at_, .slice Aw2 ws.length cw2, .slice An2 ns.length cn2, .bool skip, .bool gone, .string inb] 86)
  have hA1 := (Blk.new w 86 #[.bool on, .bool bad, .int .i64 at_, .slice Aw ws.length cw, .slice An ns.length cn, .bool skip, .bool gone, .string inb]).alloc (.cells #[.bool on, .bool bad, .int .i64 at_, .slice Aw2 ws.length cw2, .slice An2 ns.length cn2, .bool skip, .bool gone, .string inb] 86)
  have hA2 := Blk.new (w.alloc (.cells #[.bool on, .bool bad, .int .i64 at_, .slice Aw ws.length cw, .slice An ns.length cn, .bool skip, .bool gone, .string inb] 86)) 86 #[.bool on, .bool bad, .int .i64 at_, .slice Aw2 ws.length cw2, .slice An2 ns.length cn2, .bool skip, .bool gone, .string inb]
  simp only [World.size_alloc] at hA2
  have hsz : ((w.alloc (.cells #[.bool on, .bool bad, .int .i64 at_, .slice Aw ws.length cw, .slice An ns.length cn, .bool skip, .bool gone, .string inb] 86)).alloc (.cells #[.bool on, .bool bad, .int .i64 at_, .slice Aw2 ws.length cw2, .slice An2 ns.length cn2, .bool skip, .bool gone, .string inb] 86)).heap.size = w.heap.size + 2 := by simp
  go_enter Try.func89, Try.ntmps89
  go_wp2_with fail
  generalize (w.alloc (.cells #[.bool on, .bool bad, .int .i64 at_, .slice Aw ws.length cw, .slice An ns.length cn, .bool skip, .bool gone, .string inb] 86)).alloc (.cells #[.bool on, .bool bad, .int .i64 at_, .slice Aw2 ws.length cw2, .slice An2 ns.length cn2, .bool skip, .bool gone, .string inb] 86) = u1 at *
  refine (eqSeat_same on bad at_ Aw Aw2 ws cw cw2 u1 (by unfold maxLen; omega) (hR.below hb0) (hR2.below hb0)).mono ?_
  rintro e w1 ⟨he1, hb1⟩
  try rw [eqB_yes rfl] at he1
  subst he1
  have hbt1 := bthen hb0 hb1
  have hC1_1 := hA1.kept hb1
  have hC1_2 := hA2.kept hb1
  have a2_4 : w1.cell? ⟨w.heap.size, 4, none⟩ = some (.slice An ns.length cn) := hC1_1.cell 4
  have b2_4 : w1.cell? ⟨w.heap.size + 1, 4, none⟩ = some (.slice An2 ns.length cn2) := hC1_2.cell 4
  go_wp2_with fail
  refine (eqNamedS_same An An2 ns cn cn2 w1 hn (hN.below hbt1) (hN2.below hbt1)).mono ?_
  rintro e w2 ⟨he2, hb2⟩
  try rw [eqB_yes rfl] at he2
  subst he2
  have hbt2 := bthen hbt1 hb2
  have hC2_1 := hC1_1.kept hb2
  have hC2_2 := hC1_2.kept hb2
  have t_5 : w2.cell? ⟨w.heap.size, 5, none⟩ = some (.bool skip) := hC2_1.cell 5
  have v_5 : w2.cell? ⟨w.heap.size + 1, 5, none⟩ = some (.bool skip) := hC2_2.cell 5
  have t_6 : w2.cell? ⟨w.heap.size, 6, none⟩ = some (.bool gone) := hC2_1.cell 6
  have v_6 : w2.cell? ⟨w.heap.size + 1, 6, none⟩ = some (.bool gone) := hC2_2.cell 6
  have t_7 : w2.cell? ⟨w.heap.size, 7, none⟩ = some (.string inb) := hC2_1.cell 7
  have v_7 : w2.cell? ⟨w.heap.size + 1, 7, none⟩ = some (.string inb) := hC2_2.cell 7
  go_wp2
  go_ret
  exact ⟨rfl, hbt2⟩
set_option maxRecDepth 100000 in
set_option maxHeartbeats 2000000 in
theorem tk_parts {x y : Tk} (h : tkC x = tkC y) : x.on = y.on ∧ x.bad = y.bad ∧ x.at_ = y.at_ ∧ x.ws.2.2 = y.ws.2.2 ∧ x.ns.2.2 = y.ns.2.2 ∧ x.skip = y.skip ∧ x.gone = y.gone ∧ x.inb = y.inb := by
  unfold tkC at h
  simp only [Prod.mk.injEq] at h
  exact h
set_option maxRecDepth 100000 in
set_option maxHeartbeats 2000000 in
theorem eqTalkS_same (A A2 : Option Addr) (l l2 : List Tk) (c c2 : Nat) (w : World) (hn : l.length ≤ 1048576) (hl : ∀ t ∈ l, t.ws.2.2.length ≤ 1048576 ∧ t.ns.2.2.length ≤ 1048576) (he : tkS l2 = tkS l) (hS : SlT w A l) (hS2 : SlT w A2 l2) :
    Calls Try.prog 52 #[.slice A l.length c, .slice A2 l2.length c2] w fun e w' => e = .returned (.bool true) ∧ Below w.heap.size w w' := by
  have hlen : l2.length = l.length := by rw [← tkS_len l2, he, tkS_len]
  have hlb : (((l.length : Int) != (l2.length : Int)) = false) := by simp [hlen]
  have HLE := Lib.hid hlen
  have HE := Lib.hid he
  clear hlen he
  go_enter Try.func52, Try.ntmps52
  go_wp2
  go_loopw [5] (fun i wr => ∃ k : Nat, k ≤ l.length ∧ i = .int .i64 k ∧ Below w.heap.size w wr) (fun i _ => l.length - (intOf i).toNat)
  case atStart => exact ⟨0, by omega, rfl, Below.refl _ _⟩
  case round =>
    obtain ⟨k, hk, rfl, hb⟩ := hrel
    by_cases hlt : k < l.length
    · have hlt2 : k < l2.length := by rw [HLE.out]; exact hlt
      have hSw := hS.below hb
      have hSw2 := hS2.below hb
      obtain ⟨b, o, rfl, hb_, c0, c1, c2_, c3, c4, c5, c6, c7⟩ := Sl.at8 hSw.1 hlt
      obtain ⟨b2, o2, rfl, hb2_, d0, d1, d2, d3, d4, d5, d6, d7⟩ := Sl.at8 hSw2.1 hlt2
      obtain ⟨hs1, hs2⟩ := hSw.2 l[k] (by simp)
      obtain ⟨ht1, ht2⟩ := hSw2.2 l2[k] (by simp)
      have hc : tkC l[k] = tkC l2[k] := by
        have h1 : (tkS l2)[k]? = some (tkC l2[k]) := by unfold tkS; rw [List.getElem?_map, List.getElem?_eq_getElem hlt2]; rfl
        have h2 : (tkS l)[k]? = some (tkC l[k]) := by unfold tkS; rw [List.getElem?_map, List.getElem?_eq_getElem hlt]; rfl
        rw [HE.out, h2] at h1
        injection h1
      obtain ⟨hl1, hl2⟩ := hl l[k] (by simp)
      generalize l[k] = x at *
      generalize l2[k] = y at *
      obtain ⟨on, bad, at_, ⟨Aw, cw, ws⟩, ⟨An, cn, ns⟩, skip, gone, inb⟩ := x
      obtain ⟨on2, bad2, at2, ⟨Aw2, cw2, ws2⟩, ⟨An2, cn2, ns2⟩, skip2, gone2, inb2⟩ := y
      obtain ⟨e1, e2, e3, e4, e5, e6, e7, e8⟩ := tk_parts hc
      simp only at e1 e2 e3 e4 e5 e6 e7 e8 c0 c1 c2_ c3 c4 c5 c6 c7 d0 d1 d2 d3 d4 d5 d6 d7 hs1 hs2 ht1 ht2 hl1 hl2
      subst e1; subst e2; subst e3; subst e4; subst e5; subst e6; subst e7; subst e8
      have hki : (k : Int) < (l.length : Int) := by omega
      have hki2 : (k : Int) < (l2.length : Int) := by omega
      have HC := Lib.hid (fun W (h : Below wr.heap.size wr W) => eqTalk_same on bad at_ Aw Aw2 cw cw2 ws An An2 cn cn2 ns skip gone inb W hl1 hl2 (hs1.below h) (ht1.below h) (hs2.below h) (ht2.below h))
      clear hS hS2 hSw hSw2 hs1 hs2 ht1 ht2 hc hl
      go_wp2_with fail
      refine wp_region_below (by kernel_rfl) (by kernel_rfl) ?_
      iterate 10 (refine wpQuiet_step (fun K hK => ?_); go_simp; first | (apply Exists.intro; refine ⟨fun W hW => ?_, hK _ ?_⟩; (first | rfl | (go_at_call 89; exact quiet_call hW (Nat.le_refl _) (HC.out _ hW)) | (have e0 := (hW.cell (p := ⟨b, o + k * 8, none⟩) hb_).trans c0; have e1 := (hW.cell (p := ⟨b, o + k * 8 + 1, none⟩) hb_).trans c1; have e2 := (hW.cell (p := ⟨b, o + k * 8 + 2, none⟩) hb_).trans c2_; have e3 := (hW.cell (p := ⟨b, o + k * 8 + 3, none⟩) hb_).trans c3; have e4 := (hW.cell (p := ⟨b, o + k * 8 + 4, none⟩) hb_).trans c4; have e5 := (hW.cell (p := ⟨b, o + k * 8 + 5, none⟩) hb_).trans c5; have e6 := (hW.cell (p := ⟨b, o + k * 8 + 6, none⟩) hb_).trans c6; have e7 := (hW.cell (p := ⟨b, o + k * 8 + 7, none⟩) hb_).trans c7; have f0 := (hW.cell (p := ⟨b2, o2 + k * 8, none⟩) hb2_).trans d0; have f1 := (hW.cell (p := ⟨b2, o2 + k * 8 + 1, none⟩) hb2_).trans d1; have f2 := (hW.cell (p := ⟨b2, o2 + k * 8 + 2, none⟩) hb2_).trans d2; have f3 := (hW.cell (p := ⟨b2, o2 + k * 8 + 3, none⟩) hb2_).trans d3; have f4 := (hW.cell (p := ⟨b2, o2 + k * 8 + 4, none⟩) hb2_).trans d4; have f5 := (hW.cell (p := ⟨b2, o2 + k * 8 + 5, none⟩) hb2_).trans d5; have f6 := (hW.cell (p := ⟨b2, o2 + k * 8 + 6, none⟩) hb2_).trans d6; have f7 := (hW.cell (p := ⟨b2, o2 + k * 8 + 7, none⟩) hb2_).trans d7; go_simp; rfl)); clear hK K) | (refine hK _ ?_; clear hK K))
      refine wpQuiet_nil ?_
      intro W hW
      have hb' := bthen hb hW
      go_wp2
      go_roundw
      case rel => exact ⟨k + 1, by omega, by go_num, hb'⟩
      case measure => simp [intOf]; omega
    · obtain rfl : k = l.length := by omega
      go_wp2
      go_ret
      exact ⟨rfl, hb⟩
set_option maxRecDepth 100000 in
set_option maxHeartbeats 2000000 in
theorem eqHall_same (now : Int) (A A2 : Option Addr) (l : List Ver) (c c2 : Nat) (B B2 : Option Addr) (ts ts2 : List Tk) (d d2 : Nat) (w : World) (hl : l.length ≤ 1048576) (hn : ts.length ≤ 1048576) (hl2 : ∀ t ∈ ts, t.ws.2.2.length ≤ 1048576 ∧ t.ns.2.2.length ≤ 1048576) (he : tkS ts2 = tkS ts) (hS : Sl encVer 4 w A l) (hS2 : Sl encVer 4 w A2 l) (hT : SlT w B ts) (hT2 : SlT w B2 ts2) :
    Calls Try.prog 15 #[.agg #[.int .i64 now, .slice A l.length c, .slice B ts.length d], .agg #[.int .i64 now, .slice A2 l.length c2, .slice B2 ts2.length d2]] w fun e w' => e = .returned (.bool true) ∧ Below w.heap.size w w' := by
  have hb0 := ((Below.refl w.heap.size w).alloc (Nat.le_refl _) (.cells #[.int .i64 now, .slice A l.length c, .slice B ts.length d] 35)).alloc (by simp) (.cells #[.int .i64 now, .slice A2 l.length c2, .slice B2 ts2.length d2] 35)
  have hA1 := (Blk.new w 35 #[.int .i64 now, .slice A l.length c, .slice B ts.length d]).alloc (.cells #[.int .i64 now, .slice A2 l.length c2, .slice B2 ts2.length d2] 35)
  have hA2 := Blk.new (w.alloc (.cells #[.int .i64 now, .slice A l.length c, .slice B ts.length d] 35)) 35 #[.int .i64 now, .slice A2 l.length c2, .slice B2 ts2.length d2]
  simp only [World.size_alloc] at hA2
  have hsz : ((w.alloc (.cells #[.int .i64 now, .slice A l.length c, .slice B ts.length d] 35)).alloc (.cells #[.int .i64 now, .slice A2 l.length c2, .slice B2 ts2.length d2] 35)).heap.size = w.heap.size + 2 := by simp
  go_enter Try.func15, Try.ntmps15
  go_wp2_with fail
  generalize (w.alloc (.cells #[.int .i64 now, .slice A l.length c, .slice B ts.length d] 35)).alloc (.cells #[.int .i64 now, .slice A2 l.length c2, .slice B2 ts2.length d2] 35) = u1 at *
  refine (eqVers_same A A2 l c c2 now u1 (by unfold maxLen; omega) (hS.below hb0) (hS2.below hb0)).mono ?_
  rintro e w1 ⟨he1, hb1⟩
  try rw [eqB_yes rfl] at he1
  subst he1
  have hbt1 := bthen hb0 hb1
  have hC1_1 := hA1.kept hb1
  have hC1_2 := hA2.kept hb1
  have a2_2 : w1.cell? ⟨w.heap.size, 2, none⟩ = some (.slice B ts.length d) := hC1_1.cell 2
  have b2_2 : w1.cell? ⟨w.heap.size + 1, 2, none⟩ = some (.slice B2 ts2.length d2) := hC1_2.cell 2
  go_wp2_with fail
  refine (eqTalkS_same B B2 ts ts2 d d2 w1 hn hl2 he (hT.below hbt1) (hT2.below hbt1)).mono ?_
  rintro e w2 ⟨he2, hb2⟩
  try rw [eqB_yes rfl] at he2
  subst he2
  have hbt2 := bthen hbt1 hb2
  have hC2_1 := hC1_1.kept hb2
  have hC2_2 := hC1_2.kept hb2
  go_wp2
  go_ret
  exact ⟨rfl, hbt2⟩
end Go.Proofs.Yteanjfjlmpgnnaa
