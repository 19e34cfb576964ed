/- Whether two are one: what one does, a seat, one who talks, all that stands: the program's and the reference's. -/
import Derived.Test.YteanjfjlmpgnnaaTkEl
namespace Go.Proofs.Yteanjfjlmpgnnaa
open Go.RowKit
open Classical in
/-- whether two are one, whatever they are -/
noncomputable def eqC {α : Type} (x y : α) : Bool := decide (x = y)
theorem eqC_no {α : Type} {x y : α} (h : x ≠ y) : eqC x y = false := by unfold eqC; simpa using h
theorem eqC_yes {α : Type} {x y : α} (h : x = y) : eqC x y = true := by unfold eqC; simpa using h
theorem eqC_snd {α β : Type} (a : α) (x y : β) : eqC (a, x) (a, y) = eqC x y := by
  by_cases h : x = y
  · rw [eqC_yes h, eqC_yes (by rw [h])]
  · rw [eqC_no h, eqC_no (fun e => h (by injection e))]
theorem eqB_eqC {α : Type} [DecidableEq α] (x y : α) : eqB x y = eqC x y := by
  by_cases h : x = y
  · rw [eqC_yes h, eqB_yes h]
  · rw [eqC_no h, eqB_no h]
/-- two boxes on top -/
def B2 (T : TypeId) (w : World) (c1 c2 : Array Value) (W : World) : Prop := Blk W w.heap.size T c1 ∧ Blk W (w.heap.size + 1) T c2 ∧ Below w.heap.size w W
theorem B2.below {T : TypeId} {w : World} {c1 c2 : Array Value} {W W' : World} (h : B2 T w c1 c2 W) (hb : Below W.heap.size W W') : B2 T w c1 c2 W' := ⟨h.1.kept hb, h.2.1.kept hb, bthen h.2.2 hb⟩
set_option maxRecDepth 100000 in
set_option maxHeartbeats 2000000 in
theorem specWorkSame_any (a a2 : Int) (A A2 : Option Addr) (l l2 : List Wri) (c c2 : Nat) (w : World) (hn : l.length ≤ 1048576) (hn2 : l2.length ≤ 1048576) (hS : Sl encWri 3 w A l) (hS2 : Sl encWri 3 w A2 l2) :
    Calls Try.prog 134 #[.agg #[.int .i64 a, .slice A l.length c], .agg #[.int .i64 a2, .slice A2 l2.length c2]] w fun e w' => e = .returned (.bool (eqC (a, l) (a2, l2))) ∧ Below w.heap.size w w' := by
  by_cases ha : a = a2
  case neg =>
    have dn : (a != a2) = true := by simpa using ha
    have HA := Lib.hid ha
    clear ha
    go_enter Try.func134, Try.ntmps134
    go_wp2
    go_ret
    exact ⟨ret_bool (eqC_no (fun h => HA.out (by injection h))).symm, ((Below.refl w.heap.size w).alloc (Nat.le_refl _) _).alloc (by simp) _⟩
  subst ha
  have hb0 := ((Below.refl w.heap.size w).alloc (Nat.le_refl _) (.cells #[.int .i64 a, .slice A l.length c] 81)).alloc (by simp) (.cells #[.int .i64 a, .slice A2 l2.length c2] 81)
  have hA1 := (Blk.new w 81 #[.int .i64 a, .slice A l.length c]).alloc (.cells #[.int .i64 a, .slice A2 l2.length c2] 81)
  have hA2 := Blk.new (w.alloc (.cells #[.int .i64 a, .slice A l.length c] 81)) 81 #[.int .i64 a, .slice A2 l2.length c2]
  simp only [World.size_alloc] at hA2
  have HI0 := Lib.hid (show B2 81 w #[.int .i64 a, .slice A l.length c] #[.int .i64 a, .slice A2 l2.length c2] ((w.alloc (.cells #[.int .i64 a, .slice A l.length c] 81)).alloc (.cells #[.int .i64 a, .slice A2 l2.length c2] 81)) from ⟨hA1, hA2, hb0⟩)
  have HS := Lib.hid (hS.below hb0)
  have HS2 := Lib.hid (hS2.below hb0)
  clear hA1 hA2 hb0 hS hS2
  by_cases hlt : l.length = l2.length
  · have hlb : (((l.length : Int) != (l2.length : Int)) = false) := by simp [hlt]
    have HL := Lib.hid hlt
    clear hlt
    go_enter Try.func134, Try.ntmps134
    go_wp2
    generalize (w.alloc (.cells #[.int .i64 a, .slice A l.length c] 81)).alloc (.cells #[.int .i64 a, .slice A2 l2.length c2] 81) = w0 at *
    go_loopw [5] (fun i wr => ∃ k : Nat, k ≤ l.length ∧ i = .int .i64 k ∧ Hid (l.take k = l2.take k) ∧ Hid (B2 81 w #[.int .i64 a, .slice A l.length c] #[.int .i64 a, .slice A2 l2.length c2] wr) ∧ Hid (Sl encWri 3 wr A l) ∧ Hid (Sl encWri 3 wr A2 l2)) (fun i _ => l.length - (intOf i).toNat)
    case atStart => exact ⟨0, by omega, rfl, Lib.hid rfl, HI0, HS, HS2⟩
    case round =>
      clear HI0 HS HS2
      obtain ⟨k, hk, rfl, HE, HI, HS, HS2⟩ := hrel
      have r1 : wr.cell? ⟨w.heap.size, 1, none⟩ = some (.slice A l.length c) := HI.out.1.cell 1
      have s1 : wr.cell? ⟨w.heap.size + 1, 1, none⟩ = some (.slice A2 l2.length c2) := HI.out.2.1.cell 1
      by_cases hlt2 : k < l.length
      · have h2 : k < l2.length := HL.out ▸ hlt2
        obtain ⟨b, o, rfl, hbl, p0, p1, p2⟩ := Sl.at3 HS.out hlt2
        obtain ⟨b2, o2, rfl, hbl2, q0, q1, q2⟩ := Sl.at3 HS2.out h2
        generalize hx : l[k] = x at *
        generalize hy : l2[k] = y at *
        have HX := Lib.hid hx
        have HY := Lib.hid hy
        have hki : (k : Int) < (l.length : Int) := by omega
        have hki2 : (k : Int) < (l2.length : Int) := by omega
        have hg1 := HI.out.1.lt
        have hg2 := HI.out.2.1.lt
        clear hx hy
        by_cases hxy : x = y
        · have HXY := Lib.hid hxy
          subst hxy
          obtain ⟨xk, xn, xg⟩ := x
          simp only at p0 p1 p2 q0 q1 q2
          go_wp2_with fail
          refine wp_region_below (by kernel_rfl) (by kernel_rfl) ?_
          iterate 11 (refine wpQuiet_step (fun K hK => ?_); go_simp; first | (apply Exists.intro; refine ⟨fun W hW => ?_, hK _ ?_⟩; (first | rfl | (have r1x := (hW.cell (p := ⟨w.heap.size, 1, none⟩) hg1).trans r1; have s1x := (hW.cell (p := ⟨w.heap.size + 1, 1, none⟩) hg2).trans s1; have e0 := (hW.cell (p := ⟨b, o + k * 3, none⟩) hbl).trans p0; have e1 := (hW.cell (p := ⟨b, o + k * 3 + 1, none⟩) hbl).trans p1; have e2 := (hW.cell (p := ⟨b, o + k * 3 + 2, none⟩) hbl).trans p2; have f0 := (hW.cell (p := ⟨b2, o2 + k * 3, none⟩) hbl2).trans q0; have f1 := (hW.cell (p := ⟨b2, o2 + k * 3 + 1, none⟩) hbl2).trans q1; have f2 := (hW.cell (p := ⟨b2, o2 + k * 3 + 2, none⟩) hbl2).trans q2; go_simp; rfl)); clear hK K) | (refine hK _ ?_; clear hK K))
          refine wpQuiet_nil ?_
          intro W hW
          have HI := Lib.hid (HI.out.below hW)
          have HS := Lib.hid (HS.out.below hW)
          have HS2 := Lib.hid (HS2.out.below hW)
          go_wp2
          go_roundw
          case rel => exact ⟨k+1, by omega, by go_num, Lib.hid (by rw [List.take_succ_eq_append_getElem hlt2, List.take_succ_eq_append_getElem h2, HE.out, HX.out, HY.out]), HI, HS, HS2⟩
          case measure => simp [intOf]; omega
        · have HXY := Lib.hid hxy
          obtain ⟨xk, xn, xg⟩ := x
          obtain ⟨yk, yn, yg⟩ := y
          simp only at p0 p1 p2 q0 q1 q2
          by_cases p0_ : xk.toList = yk.toList
          case neg =>
            clear hxy
            go_wp2_with fail
            refine wp_region_below (by kernel_rfl) (by kernel_rfl) ?_
            iterate 11 (refine wpQuiet_step (fun K hK => ?_); go_simp; first | (apply Exists.intro; refine ⟨fun W hW => ?_, hK _ ?_⟩; (first | rfl | (have r1x := (hW.cell (p := ⟨w.heap.size, 1, none⟩) hg1).trans r1; have s1x := (hW.cell (p := ⟨w.heap.size + 1, 1, none⟩) hg2).trans s1; have e0 := (hW.cell (p := ⟨b, o + k * 3, none⟩) hbl).trans p0; have e1 := (hW.cell (p := ⟨b, o + k * 3 + 1, none⟩) hbl).trans p1; have e2 := (hW.cell (p := ⟨b, o + k * 3 + 2, none⟩) hbl).trans p2; have f0 := (hW.cell (p := ⟨b2, o2 + k * 3, none⟩) hbl2).trans q0; have f1 := (hW.cell (p := ⟨b2, o2 + k * 3 + 1, none⟩) hbl2).trans q1; have f2 := (hW.cell (p := ⟨b2, o2 + k * 3 + 2, none⟩) hbl2).trans q2; go_simp; rfl)); clear hK K) | (refine hK _ ?_; clear hK K))
            refine wpQuiet_nil ?_
            intro W hW
            have hb' := (HI.out.below hW).2.2
            go_wp2
            go_ret
            exact ⟨ret_bool (eqC_no (fun h => list_ne_at hlt2 h2 (by rw [HX.out, HY.out]; exact HXY.out) (by injection h))).symm, hb'⟩
          by_cases p1_ : xn = yn
          case neg =>
            clear hxy
            go_wp2_with fail
            refine wp_region_below (by kernel_rfl) (by kernel_rfl) ?_
            iterate 11 (refine wpQuiet_step (fun K hK => ?_); go_simp; first | (apply Exists.intro; refine ⟨fun W hW => ?_, hK _ ?_⟩; (first | rfl | (have r1x := (hW.cell (p := ⟨w.heap.size, 1, none⟩) hg1).trans r1; have s1x := (hW.cell (p := ⟨w.heap.size + 1, 1, none⟩) hg2).trans s1; have e0 := (hW.cell (p := ⟨b, o + k * 3, none⟩) hbl).trans p0; have e1 := (hW.cell (p := ⟨b, o + k * 3 + 1, none⟩) hbl).trans p1; have e2 := (hW.cell (p := ⟨b, o + k * 3 + 2, none⟩) hbl).trans p2; have f0 := (hW.cell (p := ⟨b2, o2 + k * 3, none⟩) hbl2).trans q0; have f1 := (hW.cell (p := ⟨b2, o2 + k * 3 + 1, none⟩) hbl2).trans q1; have f2 := (hW.cell (p := ⟨b2, o2 + k * 3 + 2, none⟩) hbl2).trans q2; go_simp; rfl)); clear hK K) | (refine hK _ ?_; clear hK K))
            refine wpQuiet_nil ?_
            intro W hW
            have hb' := (HI.out.below hW).2.2
            go_wp2
            go_ret
            exact ⟨ret_bool (eqC_no (fun h => list_ne_at hlt2 h2 (by rw [HX.out, HY.out]; exact HXY.out) (by injection h))).symm, hb'⟩
          have p2_ : ¬ xg = yg := fun h => hxy (by rw [(bytes_eq_iff _ _).1 p0_]; rw [p1_]; rw [h])
          clear hxy
          go_wp2_with fail
          refine wp_region_below (by kernel_rfl) (by kernel_rfl) ?_
          iterate 11 (refine wpQuiet_step (fun K hK => ?_); go_simp; first | (apply Exists.intro; refine ⟨fun W hW => ?_, hK _ ?_⟩; (first | rfl | (have r1x := (hW.cell (p := ⟨w.heap.size, 1, none⟩) hg1).trans r1; have s1x := (hW.cell (p := ⟨w.heap.size + 1, 1, none⟩) hg2).trans s1; have e0 := (hW.cell (p := ⟨b, o + k * 3, none⟩) hbl).trans p0; have e1 := (hW.cell (p := ⟨b, o + k * 3 + 1, none⟩) hbl).trans p1; have e2 := (hW.cell (p := ⟨b, o + k * 3 + 2, none⟩) hbl).trans p2; have f0 := (hW.cell (p := ⟨b2, o2 + k * 3, none⟩) hbl2).trans q0; have f1 := (hW.cell (p := ⟨b2, o2 + k * 3 + 1, none⟩) hbl2).trans q1; have f2 := (hW.cell (p := ⟨b2, o2 + k * 3 + 2, none⟩) hbl2).trans q2; go_simp; rfl)); clear hK K) | (refine hK _ ?_; clear hK K))
          refine wpQuiet_nil ?_
          intro W hW
          have hb' := (HI.out.below hW).2.2
          go_wp2
          go_ret
          exact ⟨ret_bool (eqC_no (fun h => list_ne_at hlt2 h2 (by rw [HX.out, HY.out]; exact HXY.out) (by injection h))).symm, hb'⟩
      · obtain rfl : k = l.length := by omega
        have he := HE.out
        have hbe := HI.out.2.2
        go_wp2
        go_ret
        exact ⟨ret_bool (eqC_yes (by rw [← List.take_length (l := l), he, HL.out, List.take_length])).symm, hbe⟩
  · have hlb : (((l.length : Int) != (l2.length : Int)) = true) := by simp; omega
    have HL := Lib.hid hlt
    have hbe := HI0.out.2.2
    clear hlt
    go_enter Try.func134, Try.ntmps134
    go_wp2
    go_ret
    exact ⟨ret_bool (eqC_no (fun h => HL.out (by injection h with _ h; rw [h]))).symm, hbe⟩
set_option maxRecDepth 100000 in
set_option maxHeartbeats 2000000 in
theorem specVersSame_any (a a2 : Int) (A A2 : Option Addr) (l l2 : List Ver) (c c2 : Nat) (w : World) (hn : l.length ≤ 1048576) (hn2 : l2.length ≤ 1048576) (hS : Sl encVer 4 w A l) (hS2 : Sl encVer 4 w A2 l2) :
    Calls Try.prog 47 #[.agg #[.int .i64 a, .slice A l.length c], .agg #[.int .i64 a2, .slice A2 l2.length c2]] w fun e w' => e = .returned (.bool (eqC (a, l) (a2, l2))) ∧ Below w.heap.size w w' := by
  by_cases ha : a = a2
  case neg =>
    have dn : (a != a2) = true := by simpa using ha
    have HA := Lib.hid ha
    clear ha
    go_enter Try.func47, Try.ntmps47
    go_wp2
    go_ret
    exact ⟨ret_bool (eqC_no (fun h => HA.out (by injection h))).symm, ((Below.refl w.heap.size w).alloc (Nat.le_refl _) _).alloc (by simp) _⟩
  subst ha
  have hb0 := ((Below.refl w.heap.size w).alloc (Nat.le_refl _) (.cells #[.int .i64 a, .slice A l.length c] 32)).alloc (by simp) (.cells #[.int .i64 a, .slice A2 l2.length c2] 32)
  have hA1 := (Blk.new w 32 #[.int .i64 a, .slice A l.length c]).alloc (.cells #[.int .i64 a, .slice A2 l2.length c2] 32)
  have hA2 := Blk.new (w.alloc (.cells #[.int .i64 a, .slice A l.length c] 32)) 32 #[.int .i64 a, .slice A2 l2.length c2]
  simp only [World.size_alloc] at hA2
  have HI0 := Lib.hid (show B2 32 w #[.int .i64 a, .slice A l.length c] #[.int .i64 a, .slice A2 l2.length c2] ((w.alloc (.cells #[.int .i64 a, .slice A l.length c] 32)).alloc (.cells #[.int .i64 a, .slice A2 l2.length c2] 32)) from ⟨hA1, hA2, hb0⟩)
  have HS := Lib.hid (hS.below hb0)
  have HS2 := Lib.hid (hS2.below hb0)
  clear hA1 hA2 hb0 hS hS2
  by_cases hlt : l.length = l2.length
  · have hlb : (((l.length : Int) != (l2.length : Int)) = false) := by simp [hlt]
    have HL := Lib.hid hlt
    clear hlt
    go_enter Try.func47, Try.ntmps47
    go_wp2
    generalize (w.alloc (.cells #[.int .i64 a, .slice A l.length c] 32)).alloc (.cells #[.int .i64 a, .slice A2 l2.length c2] 32) = w0 at *
    go_loopw [5] (fun i wr => ∃ k : Nat, k ≤ l.length ∧ i = .int .i64 k ∧ Hid (l.take k = l2.take k) ∧ Hid (B2 32 w #[.int .i64 a, .slice A l.length c] #[.int .i64 a, .slice A2 l2.length c2] wr) ∧ Hid (Sl encVer 4 wr A l) ∧ Hid (Sl encVer 4 wr A2 l2)) (fun i _ => l.length - (intOf i).toNat)
    case atStart => exact ⟨0, by omega, rfl, Lib.hid rfl, HI0, HS, HS2⟩
    case round =>
      clear HI0 HS HS2
      obtain ⟨k, hk, rfl, HE, HI, HS, HS2⟩ := hrel
      have r1 : wr.cell? ⟨w.heap.size, 1, none⟩ = some (.slice A l.length c) := HI.out.1.cell 1
      have s1 : wr.cell? ⟨w.heap.size + 1, 1, none⟩ = some (.slice A2 l2.length c2) := HI.out.2.1.cell 1
      by_cases hlt2 : k < l.length
      · have h2 : k < l2.length := HL.out ▸ hlt2
        obtain ⟨b, o, rfl, hbl, p0, p1, p2, p3⟩ := Sl.at4 HS.out hlt2
        obtain ⟨b2, o2, rfl, hbl2, q0, q1, q2, q3⟩ := Sl.at4 HS2.out h2
        generalize hx : l[k] = x at *
        generalize hy : l2[k] = y at *
        have HX := Lib.hid hx
        have HY := Lib.hid hy
        have hki : (k : Int) < (l.length : Int) := by omega
        have hki2 : (k : Int) < (l2.length : Int) := by omega
        have hg1 := HI.out.1.lt
        have hg2 := HI.out.2.1.lt
        clear hx hy
        by_cases hxy : x = y
        · have HXY := Lib.hid hxy
          subst hxy
          obtain ⟨xk, xn, xf, xt⟩ := x
          simp only at p0 p1 p2 p3 q0 q1 q2 q3
          go_wp2_with fail
          refine wp_region_below (by kernel_rfl) (by kernel_rfl) ?_
          iterate 11 (refine wpQuiet_step (fun K hK => ?_); go_simp; first | (apply Exists.intro; refine ⟨fun W hW => ?_, hK _ ?_⟩; (first | rfl | (have r1x := (hW.cell (p := ⟨w.heap.size, 1, none⟩) hg1).trans r1; have s1x := (hW.cell (p := ⟨w.heap.size + 1, 1, none⟩) hg2).trans s1; have e0 := (hW.cell (p := ⟨b, o + k * 4, none⟩) hbl).trans p0; have e1 := (hW.cell (p := ⟨b, o + k * 4 + 1, none⟩) hbl).trans p1; have e2 := (hW.cell (p := ⟨b, o + k * 4 + 2, none⟩) hbl).trans p2; have e3 := (hW.cell (p := ⟨b, o + k * 4 + 3, none⟩) hbl).trans p3; have f0 := (hW.cell (p := ⟨b2, o2 + k * 4, none⟩) hbl2).trans q0; have f1 := (hW.cell (p := ⟨b2, o2 + k * 4 + 1, none⟩) hbl2).trans q1; have f2 := (hW.cell (p := ⟨b2, o2 + k * 4 + 2, none⟩) hbl2).trans q2; have f3 := (hW.cell (p := ⟨b2, o2 + k * 4 + 3, none⟩) hbl2).trans q3; go_simp; rfl)); clear hK K) | (refine hK _ ?_; clear hK K))
          refine wpQuiet_nil ?_
          intro W hW
          have HI := Lib.hid (HI.out.below hW)
          have HS := Lib.hid (HS.out.below hW)
          have HS2 := Lib.hid (HS2.out.below hW)
          go_wp2
          go_roundw
          case rel => exact ⟨k+1, by omega, by go_num, Lib.hid (by rw [List.take_succ_eq_append_getElem hlt2, List.take_succ_eq_append_getElem h2, HE.out, HX.out, HY.out]), HI, HS, HS2⟩
          case measure => simp [intOf]; omega
        · have HXY := Lib.hid hxy
          obtain ⟨xk, xn, xf, xt⟩ := x
          obtain ⟨yk, yn, yf, yt⟩ := y
          simp only at p0 p1 p2 p3 q0 q1 q2 q3
          by_cases p0_ : xk.toList = yk.toList
          case neg =>
            clear hxy
            go_wp2_with fail
            refine wp_region_below (by kernel_rfl) (by kernel_rfl) ?_
            iterate 11 (refine wpQuiet_step (fun K hK => ?_); go_simp; first | (apply Exists.intro; refine ⟨fun W hW => ?_, hK _ ?_⟩; (first | rfl | (have r1x := (hW.cell (p := ⟨w.heap.size, 1, none⟩) hg1).trans r1; have s1x := (hW.cell (p := ⟨w.heap.size + 1, 1, none⟩) hg2).trans s1; have e0 := (hW.cell (p := ⟨b, o + k * 4, none⟩) hbl).trans p0; have e1 := (hW.cell (p := ⟨b, o + k * 4 + 1, none⟩) hbl).trans p1; have e2 := (hW.cell (p := ⟨b, o + k * 4 + 2, none⟩) hbl).trans p2; have e3 := (hW.cell (p := ⟨b, o + k * 4 + 3, none⟩) hbl).trans p3; have f0 := (hW.cell (p := ⟨b2, o2 + k * 4, none⟩) hbl2).trans q0; have f1 := (hW.cell (p := ⟨b2, o2 + k * 4 + 1, none⟩) hbl2).trans q1; have f2 := (hW.cell (p := ⟨b2, o2 + k * 4 + 2, none⟩) hbl2).trans q2; have f3 := (hW.cell (p := ⟨b2, o2 + k * 4 + 3, none⟩) hbl2).trans q3; go_simp; rfl)); clear hK K) | (refine hK _ ?_; clear hK K))
            refine wpQuiet_nil ?_
            intro W hW
            have hb' := (HI.out.below hW).2.2
            go_wp2
            go_ret
            exact ⟨ret_bool (eqC_no (fun h => list_ne_at hlt2 h2 (by rw [HX.out, HY.out]; exact HXY.out) (by injection h))).symm, hb'⟩
          by_cases p1_ : xn = yn
          case neg =>
            clear hxy
            go_wp2_with fail
            refine wp_region_below (by kernel_rfl) (by kernel_rfl) ?_
            iterate 11 (refine wpQuiet_step (fun K hK => ?_); go_simp; first | (apply Exists.intro; refine ⟨fun W hW => ?_, hK _ ?_⟩; (first | rfl | (have r1x := (hW.cell (p := ⟨w.heap.size, 1, none⟩) hg1).trans r1; have s1x := (hW.cell (p := ⟨w.heap.size + 1, 1, none⟩) hg2).trans s1; have e0 := (hW.cell (p := ⟨b, o + k * 4, none⟩) hbl).trans p0; have e1 := (hW.cell (p := ⟨b, o + k * 4 + 1, none⟩) hbl).trans p1; have e2 := (hW.cell (p := ⟨b, o + k * 4 + 2, none⟩) hbl).trans p2; have e3 := (hW.cell (p := ⟨b, o + k * 4 + 3, none⟩) hbl).trans p3; have f0 := (hW.cell (p := ⟨b2, o2 + k * 4, none⟩) hbl2).trans q0; have f1 := (hW.cell (p := ⟨b2, o2 + k * 4 + 1, none⟩) hbl2).trans q1; have f2 := (hW.cell (p := ⟨b2, o2 + k * 4 + 2, none⟩) hbl2).trans q2; have f3 := (hW.cell (p := ⟨b2, o2 + k * 4 + 3, none⟩) hbl2).trans q3; go_simp; rfl)); clear hK K) | (refine hK _ ?_; clear hK K))
            refine wpQuiet_nil ?_
            intro W hW
            have hb' := (HI.out.below hW).2.2
            go_wp2
            go_ret
            exact ⟨ret_bool (eqC_no (fun h => list_ne_at hlt2 h2 (by rw [HX.out, HY.out]; exact HXY.out) (by injection h))).symm, hb'⟩
          by_cases p2_ : xf = yf
          case neg =>
            clear hxy
            go_wp2_with fail
            refine wp_region_below (by kernel_rfl) (by kernel_rfl) ?_
            iterate 11 (refine wpQuiet_step (fun K hK => ?_); go_simp; first | (apply Exists.intro; refine ⟨fun W hW => ?_, hK _ ?_⟩; (first | rfl | (have r1x := (hW.cell (p := ⟨w.heap.size, 1, none⟩) hg1).trans r1; have s1x := (hW.cell (p := ⟨w.heap.size + 1, 1, none⟩) hg2).trans s1; have e0 := (hW.cell (p := ⟨b, o + k * 4, none⟩) hbl).trans p0; have e1 := (hW.cell (p := ⟨b, o + k * 4 + 1, none⟩) hbl).trans p1; have e2 := (hW.cell (p := ⟨b, o + k * 4 + 2, none⟩) hbl).trans p2; have e3 := (hW.cell (p := ⟨b, o + k * 4 + 3, none⟩) hbl).trans p3; have f0 := (hW.cell (p := ⟨b2, o2 + k * 4, none⟩) hbl2).trans q0; have f1 := (hW.cell (p := ⟨b2, o2 + k * 4 + 1, none⟩) hbl2).trans q1; have f2 := (hW.cell (p := ⟨b2, o2 + k * 4 + 2, none⟩) hbl2).trans q2; have f3 := (hW.cell (p := ⟨b2, o2 + k * 4 + 3, none⟩) hbl2).trans q3; go_simp; rfl)); clear hK K) | (refine hK _ ?_; clear hK K))
            refine wpQuiet_nil ?_
            intro W hW
            have hb' := (HI.out.below hW).2.2
            go_wp2
            go_ret
            exact ⟨ret_bool (eqC_no (fun h => list_ne_at hlt2 h2 (by rw [HX.out, HY.out]; exact HXY.out) (by injection h))).symm, hb'⟩
          have p3_ : ¬ xt = yt := fun h => hxy (by rw [(bytes_eq_iff _ _).1 p0_]; rw [p1_]; rw [p2_]; rw [h])
          clear hxy
          go_wp2_with fail
          refine wp_region_below (by kernel_rfl) (by kernel_rfl) ?_
          iterate 11 (refine wpQuiet_step (fun K hK => ?_); go_simp; first | (apply Exists.intro; refine ⟨fun W hW => ?_, hK _ ?_⟩; (first | rfl | (have r1x := (hW.cell (p := ⟨w.heap.size, 1, none⟩) hg1).trans r1; have s1x := (hW.cell (p := ⟨w.heap.size + 1, 1, none⟩) hg2).trans s1; have e0 := (hW.cell (p := ⟨b, o + k * 4, none⟩) hbl).trans p0; have e1 := (hW.cell (p := ⟨b, o + k * 4 + 1, none⟩) hbl).trans p1; have e2 := (hW.cell (p := ⟨b, o + k * 4 + 2, none⟩) hbl).trans p2; have e3 := (hW.cell (p := ⟨b, o + k * 4 + 3, none⟩) hbl).trans p3; have f0 := (hW.cell (p := ⟨b2, o2 + k * 4, none⟩) hbl2).trans q0; have f1 := (hW.cell (p := ⟨b2, o2 + k * 4 + 1, none⟩) hbl2).trans q1; have f2 := (hW.cell (p := ⟨b2, o2 + k * 4 + 2, none⟩) hbl2).trans q2; have f3 := (hW.cell (p := ⟨b2, o2 + k * 4 + 3, none⟩) hbl2).trans q3; go_simp; rfl)); clear hK K) | (refine hK _ ?_; clear hK K))
          refine wpQuiet_nil ?_
          intro W hW
          have hb' := (HI.out.below hW).2.2
          go_wp2
          go_ret
          exact ⟨ret_bool (eqC_no (fun h => list_ne_at hlt2 h2 (by rw [HX.out, HY.out]; exact HXY.out) (by injection h))).symm, hb'⟩
      · obtain rfl : k = l.length := by omega
        have he := HE.out
        have hbe := HI.out.2.2
        go_wp2
        go_ret
        exact ⟨ret_bool (eqC_yes (by rw [← List.take_length (l := l), he, HL.out, List.take_length])).symm, hbe⟩
  · have hlb : (((l.length : Int) != (l2.length : Int)) = true) := by simp; omega
    have HL := Lib.hid hlt
    have hbe := HI0.out.2.2
    clear hlt
    go_enter Try.func47, Try.ntmps47
    go_wp2
    go_ret
    exact ⟨ret_bool (eqC_no (fun h => HL.out (by injection h with _ h; rw [h]))).symm, hbe⟩
set_option maxRecDepth 100000 in
set_option maxHeartbeats 2000000 in
theorem implWorkSame_any (a a2 : Int) (A A2 : Option Addr) (l l2 : List Wri) (c c2 : Nat) (w : World) (hn : l.length ≤ 1048576) (hn2 : l2.length ≤ 1048576) (hS : Sl encWri 3 w A l) (hS2 : Sl encWri 3 w A2 l2) :
    Calls Try.prog 137 #[.agg #[.int .i64 a, .slice A l.length c], .agg #[.int .i64 a2, .slice A2 l2.length c2]] w fun e w' => e = .returned (.bool (eqC (a, l) (a2, l2))) ∧ Below w.heap.size w w' := by
  by_cases ha : a = a2
  case neg =>
    have dn : (a == a2) = false := by simpa using ha
    have HA := Lib.hid ha
    clear ha
    go_enter Try.func137, Try.ntmps137
    go_wp2
    go_ret
    exact ⟨ret_bool (eqC_no (fun h => HA.out (by injection h))).symm, ((Below.refl w.heap.size w).alloc (Nat.le_refl _) _).alloc (by simp) _⟩
  subst ha
  have hb0 := ((Below.refl w.heap.size w).alloc (Nat.le_refl _) (.cells #[.int .i64 a, .slice A l.length c] 81)).alloc (by simp) (.cells #[.int .i64 a, .slice A2 l2.length c2] 81)
  have hA1 := (Blk.new w 81 #[.int .i64 a, .slice A l.length c]).alloc (.cells #[.int .i64 a, .slice A2 l2.length c2] 81)
  have hA2 := Blk.new (w.alloc (.cells #[.int .i64 a, .slice A l.length c] 81)) 81 #[.int .i64 a, .slice A2 l2.length c2]
  simp only [World.size_alloc] at hA2
  have HC := Lib.hid (equalW_any A A2 l l2 c c2 _ hn hn2 (hS.below hb0) (hS2.below hb0))
  clear hA1 hA2 hS hS2
  go_enter Try.func137, Try.ntmps137
  go_wp2_with fail
  refine HC.out.mono ?_
  rintro e w1 ⟨he, hb1⟩
  obtain ⟨q, hq⟩ : ∃ q, q = eqC (a, l) (a, l2) := ⟨_, rfl⟩
  rw [eqB_eqC, ← eqC_snd a l l2, ← hq] at he
  subst he
  have HQ := Lib.hid hq
  have hbe := bthen hb0 hb1
  clear hq
  go_wp2
  all_goals
    go_ret
    exact ⟨ret_bool HQ.out, hbe⟩
set_option maxRecDepth 100000 in
set_option maxHeartbeats 2000000 in
theorem implVersSame_any (a a2 : Int) (A A2 : Option Addr) (l l2 : List Ver) (c c2 : Nat) (w : World) (hn : l.length ≤ 1048576) (hn2 : l2.length ≤ 1048576) (hS : Sl encVer 4 w A l) (hS2 : Sl encVer 4 w A2 l2) :
    Calls Try.prog 32 #[.agg #[.int .i64 a, .slice A l.length c], .agg #[.int .i64 a2, .slice A2 l2.length c2]] w fun e w' => e = .returned (.bool (eqC (a, l) (a2, l2))) ∧ Below w.heap.size w w' := by
  by_cases ha : a = a2
  case neg =>
    have dn : (a == a2) = false := by simpa using ha
    have HA := Lib.hid ha
    clear ha
    go_enter Try.func32, Try.ntmps32
    go_wp2
    go_ret
    exact ⟨ret_bool (eqC_no (fun h => HA.out (by injection h))).symm, ((Below.refl w.heap.size w).alloc (Nat.le_refl _) _).alloc (by simp) _⟩
  subst ha
  have hb0 := ((Below.refl w.heap.size w).alloc (Nat.le_refl _) (.cells #[.int .i64 a, .slice A l.length c] 32)).alloc (by simp) (.cells #[.int .i64 a, .slice A2 l2.length c2] 32)
  have hA1 := (Blk.new w 32 #[.int .i64 a, .slice A l.length c]).alloc (.cells #[.int .i64 a, .slice A2 l2.length c2] 32)
  have hA2 := Blk.new (w.alloc (.cells #[.int .i64 a, .slice A l.length c] 32)) 32 #[.int .i64 a, .slice A2 l2.length c2]
  simp only [World.size_alloc] at hA2
  have HC := Lib.hid (equalV_any A A2 l l2 c c2 _ hn hn2 (hS.below hb0) (hS2.below hb0))
  clear hA1 hA2 hS hS2
  go_enter Try.func32, Try.ntmps32
  go_wp2_with fail
  refine HC.out.mono ?_
  rintro e w1 ⟨he, hb1⟩
  obtain ⟨q, hq⟩ : ∃ q, q = eqC (a, l) (a, l2) := ⟨_, rfl⟩
  rw [eqB_eqC, ← eqC_snd a l l2, ← hq] at he
  subst he
  have HQ := Lib.hid hq
  have hbe := bthen hb0 hb1
  clear hq
  go_wp2
  all_goals
    go_ret
    exact ⟨ret_bool HQ.out, hbe⟩
set_option maxRecDepth 100000 in
set_option maxHeartbeats 2000000 in
theorem specSeatSame_any (on on2 bad bad2 : Bool) (a a2 : Int) (A A2 : Option Addr) (l l2 : List Wri) (c c2 : Nat) (w : World) (hn : l.length ≤ 1048576) (hn2 : l2.length ≤ 1048576) (hS : Sl encWri 3 w A l) (hS2 : Sl encWri 3 w A2 l2) :
    Calls Try.prog 85 #[.agg #[.bool on, .bool bad, .int .i64 a, .slice A l.length c], .agg #[.bool on2, .bool bad2, .int .i64 a2, .slice A2 l2.length c2]] w fun e w' => e = .returned (.bool (eqC (on, bad, a, l) (on2, bad2, a2, l2))) ∧ Below w.heap.size w w' := by
  have hb0 := ((Below.refl w.heap.size w).alloc (Nat.le_refl _) (.cells #[.bool on, .bool bad, .int .i64 a, .slice A l.length c] 83)).alloc (by simp) (.cells #[.bool on2, .bool bad2, .int .i64 a2, .slice A2 l2.length c2] 83)
  have hA1 := (Blk.new w 83 #[.bool on, .bool bad, .int .i64 a, .slice A l.length c]).alloc (.cells #[.bool on2, .bool bad2, .int .i64 a2, .slice A2 l2.length c2] 83)
  have hA2 := Blk.new (w.alloc (.cells #[.bool on, .bool bad, .int .i64 a, .slice A l.length c] 83)) 83 #[.bool on2, .bool bad2, .int .i64 a2, .slice A2 l2.length c2]
  simp only [World.size_alloc] at hA2
  have HC := Lib.hid (specWorkSame_any a a2 A A2 l l2 c c2 _ hn hn2 (hS.below hb0) (hS2.below hb0))
  clear hA1 hA2 hS hS2
  by_cases ho : on = on2
  case neg =>
    have dn : (on == on2) = false := by simpa using ho
    have HA := Lib.hid ho
    clear ho
    go_enter Try.func85, Try.ntmps85
    go_wp2
    go_ret
    exact ⟨ret_bool (eqC_no (fun h => HA.out (by injection h))).symm, hb0⟩
  subst ho
  by_cases ho : bad = bad2
  case neg =>
    have dn : (bad == bad2) = false := by simpa using ho
    have HA := Lib.hid ho
    clear ho
    go_enter Try.func85, Try.ntmps85
    go_wp2
    go_ret
    exact ⟨ret_bool (eqC_no (fun h => HA.out (by injection h with _ h; injection h))).symm, hb0⟩
  subst ho
  go_enter Try.func85, Try.ntmps85
  go_wp2_with fail
  refine HC.out.mono ?_
  rintro e w1 ⟨he, hb1⟩
  obtain ⟨q, hq⟩ : ∃ q, q = eqC (a, l) (a2, l2) := ⟨_, rfl⟩
  rw [← hq] at he
  subst he
  have HQ := Lib.hid hq
  have hbe := bthen hb0 hb1
  clear hq
  go_wp2
  all_goals
    go_ret
    exact ⟨ret_bool (HQ.out.trans (by rw [eqC_snd, eqC_snd])), hbe⟩
set_option maxRecDepth 100000 in
set_option maxHeartbeats 2000000 in
theorem implSeatSame_any (on on2 bad bad2 : Bool) (a a2 : Int) (A A2 : Option Addr) (l l2 : List Wri) (c c2 : Nat) (w : World) (hn : l.length ≤ 1048576) (hn2 : l2.length ≤ 1048576) (hS : Sl encWri 3 w A l) (hS2 : Sl encWri 3 w A2 l2) :
    Calls Try.prog 87 #[.agg #[.bool on, .bool bad, .int .i64 a, .slice A l.length c], .agg #[.bool on2, .bool bad2, .int .i64 a2, .slice A2 l2.length c2]] w fun e w' => e = .returned (.bool (eqC (on, bad, a, l) (on2, bad2, a2, l2))) ∧ Below w.heap.size w w' := by
  have hb0 := ((Below.refl w.heap.size w).alloc (Nat.le_refl _) (.cells #[.bool on, .bool bad, .int .i64 a, .slice A l.length c] 83)).alloc (by simp) (.cells #[.bool on2, .bool bad2, .int .i64 a2, .slice A2 l2.length c2] 83)
  have hA1 := (Blk.new w 83 #[.bool on, .bool bad, .int .i64 a, .slice A l.length c]).alloc (.cells #[.bool on2, .bool bad2, .int .i64 a2, .slice A2 l2.length c2] 83)
  have hA2 := Blk.new (w.alloc (.cells #[.bool on, .bool bad, .int .i64 a, .slice A l.length c] 83)) 83 #[.bool on2, .bool bad2, .int .i64 a2, .slice A2 l2.length c2]
  simp only [World.size_alloc] at hA2
  have HC := Lib.hid (implWorkSame_any a a2 A A2 l l2 c c2 _ hn hn2 (hS.below hb0) (hS2.below hb0))
  clear hA1 hA2 hS hS2
  by_cases ho : on = on2
  case neg =>
    have dn : (on == on2) = false := by simpa using ho
    have HA := Lib.hid ho
    clear ho
    go_enter Try.func87, Try.ntmps87
    go_wp2
    go_ret
    exact ⟨ret_bool (eqC_no (fun h => HA.out (by injection h))).symm, hb0⟩
  subst ho
  by_cases ho : bad = bad2
  case neg =>
    have dn : (bad == bad2) = false := by simpa using ho
    have HA := Lib.hid ho
    clear ho
    go_enter Try.func87, Try.ntmps87
    go_wp2
    go_ret
    exact ⟨ret_bool (eqC_no (fun h => HA.out (by injection h with _ h; injection h))).symm, hb0⟩
  subst ho
  go_enter Try.func87, Try.ntmps87
  go_wp2_with fail
  refine HC.out.mono ?_
  rintro e w1 ⟨he, hb1⟩
  obtain ⟨q, hq⟩ : ∃ q, q = eqC (a, l) (a2, l2) := ⟨_, rfl⟩
  rw [← hq] at he
  subst he
  have HQ := Lib.hid hq
  have hbe := bthen hb0 hb1
  clear hq
  go_wp2
  all_goals
    go_ret
    exact ⟨ret_bool (HQ.out.trans (by rw [eqC_snd, eqC_snd])), hbe⟩
end Go.Proofs.Yteanjfjlmpgnnaa
