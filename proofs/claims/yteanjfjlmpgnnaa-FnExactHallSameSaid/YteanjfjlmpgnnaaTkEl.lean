/- Two lists of what one talks with, element by element. -/
import Derived.Test.YteanjfjlmpgnnaaTkS
import Derived.BigQuiet
namespace Go.Proofs.Yteanjfjlmpgnnaa
open Go.RowKit
set_option maxRecDepth 100000 in
set_option maxHeartbeats 2000000 in
theorem equalW_any (A A2 : Option Addr) (l l2 : List Wri) (c c2 : Nat) (w : World) (hn : l.length ≤ 1048576) (hn2 : l2.length ≤ 1048576) (hS : Sl encWri 3 w A l) (hS2 : Sl encWri 3 w A2 l2) :
    Calls Try.prog 160 #[.slice A l.length c, .slice A2 l2.length c2] w fun e w' => e = .returned (.bool (eqB l l2)) ∧ Below w.heap.size w w' := by
  by_cases hlt : l.length = l2.length
  · have hlb : (((l.length : Int) != (l2.length : Int)) = false) := by simp [hlt]
    have HL := Lib.hid hlt
    clear hlt
    go_enter Try.func160, Try.ntmps160
    go_wp2
    go_loopw [13] (fun i wr => ∃ k : Nat, k ≤ l.length ∧ i = .int .i64 k ∧ Hid (l.take k = l2.take k) ∧ Below w.heap.size w wr) (fun i _ => l.length - (intOf i).toNat)
    case atStart => exact ⟨0, by omega, rfl, Lib.hid rfl, Below.refl _ _⟩
    case round =>
      obtain ⟨k, hk, rfl, HE, hb⟩ := hrel
      by_cases hlt2 : k < l.length
      · have h2 : k < l2.length := HL.out ▸ hlt2
        obtain ⟨b, o, rfl, hbl, c0, c1, c2⟩ := Sl.at3 (hS.below hb) hlt2
        obtain ⟨b2, o2, rfl, hbl2, d0, d1, d2⟩ := Sl.at3 (hS2.below hb) h2
        generalize hx : l[k] = x at *
        generalize hy : l2[k] = y at *
        have HX := Lib.hid hx
        have HY := Lib.hid hy
        have hki : (k : Int) < (l.length : Int) := by omega
        have hki2 : (k : Int) < (l2.length : Int) := by omega
        clear hx hy hS hS2
        by_cases hxy : x = y
        · have HXY := Lib.hid hxy
          subst hxy
          obtain ⟨xk, xn, xg⟩ := x
          simp only at c0 c1 c2 d0 d1 d2
          go_wp2_with fail
          refine wp_region_below (by kernel_rfl) (by kernel_rfl) ?_
          iterate 9 (refine wpQuiet_step (fun K hK => ?_); go_simp; first | (apply Exists.intro; refine ⟨fun W hW => ?_, hK _ ?_⟩; (first | rfl | (have e0 := (hW.cell (p := ⟨b, o + k * 3, none⟩) hbl).trans c0; have e1 := (hW.cell (p := ⟨b, o + k * 3 + 1, none⟩) hbl).trans c1; have e2 := (hW.cell (p := ⟨b, o + k * 3 + 2, none⟩) hbl).trans c2; have f0 := (hW.cell (p := ⟨b2, o2 + k * 3, none⟩) hbl2).trans d0; have f1 := (hW.cell (p := ⟨b2, o2 + k * 3 + 1, none⟩) hbl2).trans d1; have f2 := (hW.cell (p := ⟨b2, o2 + k * 3 + 2, none⟩) hbl2).trans d2; go_simp; rfl)); clear hK K) | (refine hK _ ?_; clear hK K))
          refine wpQuiet_nil ?_
          intro W hW
          have hb' := bthen hb hW
          go_wp2
          go_roundw
          case rel => exact ⟨k+1, by omega, by go_num, Lib.hid (by rw [List.take_succ_eq_append_getElem hlt2, List.take_succ_eq_append_getElem h2, HE.out, HX.out, HY.out]), hb'⟩
          case measure => simp [intOf]; omega
        · have HXY := Lib.hid hxy
          obtain ⟨xk, xn, xg⟩ := x
          obtain ⟨yk, yn, yg⟩ := y
          simp only at c0 c1 c2 d0 d1 d2
          by_cases p0 : xk.toList = yk.toList
          case neg =>
            clear hxy
            go_wp2_with fail
            refine wp_region_below (by kernel_rfl) (by kernel_rfl) ?_
            iterate 9 (refine wpQuiet_step (fun K hK => ?_); go_simp; first | (apply Exists.intro; refine ⟨fun W hW => ?_, hK _ ?_⟩; (first | rfl | (have e0 := (hW.cell (p := ⟨b, o + k * 3, none⟩) hbl).trans c0; have e1 := (hW.cell (p := ⟨b, o + k * 3 + 1, none⟩) hbl).trans c1; have e2 := (hW.cell (p := ⟨b, o + k * 3 + 2, none⟩) hbl).trans c2; have f0 := (hW.cell (p := ⟨b2, o2 + k * 3, none⟩) hbl2).trans d0; have f1 := (hW.cell (p := ⟨b2, o2 + k * 3 + 1, none⟩) hbl2).trans d1; have f2 := (hW.cell (p := ⟨b2, o2 + k * 3 + 2, none⟩) hbl2).trans d2; go_simp; rfl)); clear hK K) | (refine hK _ ?_; clear hK K))
            refine wpQuiet_nil ?_
            intro W hW
            have hb' := bthen hb hW
            go_wp2
            go_ret
            exact ⟨ret_bool (eqB_no (list_ne_at hlt2 h2 (by rw [HX.out, HY.out]; exact HXY.out))).symm, hb'⟩
          by_cases p1 : xn = yn
          case neg =>
            clear hxy
            go_wp2_with fail
            refine wp_region_below (by kernel_rfl) (by kernel_rfl) ?_
            iterate 9 (refine wpQuiet_step (fun K hK => ?_); go_simp; first | (apply Exists.intro; refine ⟨fun W hW => ?_, hK _ ?_⟩; (first | rfl | (have e0 := (hW.cell (p := ⟨b, o + k * 3, none⟩) hbl).trans c0; have e1 := (hW.cell (p := ⟨b, o + k * 3 + 1, none⟩) hbl).trans c1; have e2 := (hW.cell (p := ⟨b, o + k * 3 + 2, none⟩) hbl).trans c2; have f0 := (hW.cell (p := ⟨b2, o2 + k * 3, none⟩) hbl2).trans d0; have f1 := (hW.cell (p := ⟨b2, o2 + k * 3 + 1, none⟩) hbl2).trans d1; have f2 := (hW.cell (p := ⟨b2, o2 + k * 3 + 2, none⟩) hbl2).trans d2; go_simp; rfl)); clear hK K) | (refine hK _ ?_; clear hK K))
            refine wpQuiet_nil ?_
            intro W hW
            have hb' := bthen hb hW
            go_wp2
            go_ret
            exact ⟨ret_bool (eqB_no (list_ne_at hlt2 h2 (by rw [HX.out, HY.out]; exact HXY.out))).symm, hb'⟩
          have p2 : ¬ xg = yg := fun h => hxy (by rw [(bytes_eq_iff _ _).1 p0]; rw [p1]; rw [h])
          clear hxy
          go_wp2_with fail
          refine wp_region_below (by kernel_rfl) (by kernel_rfl) ?_
          iterate 9 (refine wpQuiet_step (fun K hK => ?_); go_simp; first | (apply Exists.intro; refine ⟨fun W hW => ?_, hK _ ?_⟩; (first | rfl | (have e0 := (hW.cell (p := ⟨b, o + k * 3, none⟩) hbl).trans c0; have e1 := (hW.cell (p := ⟨b, o + k * 3 + 1, none⟩) hbl).trans c1; have e2 := (hW.cell (p := ⟨b, o + k * 3 + 2, none⟩) hbl).trans c2; have f0 := (hW.cell (p := ⟨b2, o2 + k * 3, none⟩) hbl2).trans d0; have f1 := (hW.cell (p := ⟨b2, o2 + k * 3 + 1, none⟩) hbl2).trans d1; have f2 := (hW.cell (p := ⟨b2, o2 + k * 3 + 2, none⟩) hbl2).trans d2; go_simp; rfl)); clear hK K) | (refine hK _ ?_; clear hK K))
          refine wpQuiet_nil ?_
          intro W hW
          have hb' := bthen hb hW
          go_wp2
          go_ret
          exact ⟨ret_bool (eqB_no (list_ne_at hlt2 h2 (by rw [HX.out, HY.out]; exact HXY.out))).symm, hb'⟩
      · obtain rfl : k = l.length := by omega
        have he := HE.out
        go_wp2
        go_ret
        exact ⟨ret_bool (eqB_yes (by rw [← List.take_length (l := l), he, HL.out, List.take_length])).symm, hb⟩
  · have hlb : (((l.length : Int) != (l2.length : Int)) = true) := by simp; omega
    have HL := Lib.hid hlt
    clear hlt
    go_enter Try.func160, Try.ntmps160
    go_wp2
    go_ret
    exact ⟨ret_bool (eqB_no (by rintro rfl; exact HL.out rfl)).symm, Below.refl _ _⟩
set_option maxRecDepth 100000 in
set_option maxHeartbeats 2000000 in
theorem equalN_any (A A2 : Option Addr) (l l2 : List Nm) (c c2 : Nat) (w : World) (hn : l.length ≤ 1048576) (hn2 : l2.length ≤ 1048576) (hS : Sl encNm 5 w A l) (hS2 : Sl encNm 5 w A2 l2) :
    Calls Try.prog 88 #[.slice A l.length c, .slice A2 l2.length c2] w fun e w' => e = .returned (.bool (eqB l l2)) ∧ Below w.heap.size w w' := by
  by_cases hlt : l.length = l2.length
  · have hlb : (((l.length : Int) != (l2.length : Int)) = false) := by simp [hlt]
    have HL := Lib.hid hlt
    clear hlt
    go_enter Try.func88, Try.ntmps88
    go_wp2
    go_loopw [13] (fun i wr => ∃ k : Nat, k ≤ l.length ∧ i = .int .i64 k ∧ Hid (l.take k = l2.take k) ∧ Below w.heap.size w wr) (fun i _ => l.length - (intOf i).toNat)
    case atStart => exact ⟨0, by omega, rfl, Lib.hid rfl, Below.refl _ _⟩
    case round =>
      obtain ⟨k, hk, rfl, HE, hb⟩ := hrel
      by_cases hlt2 : k < l.length
      · have h2 : k < l2.length := HL.out ▸ hlt2
        obtain ⟨b, o, rfl, hbl, c0, c1, c2, c3, c4⟩ := Sl.at5 (hS.below hb) hlt2
        obtain ⟨b2, o2, rfl, hbl2, d0, d1, d2, d3, d4⟩ := Sl.at5 (hS2.below hb) h2
        generalize hx : l[k] = x at *
        generalize hy : l2[k] = y at *
        have HX := Lib.hid hx
        have HY := Lib.hid hy
        have hki : (k : Int) < (l.length : Int) := by omega
        have hki2 : (k : Int) < (l2.length : Int) := by omega
        clear hx hy hS hS2
        by_cases hxy : x = y
        · have HXY := Lib.hid hxy
          subst hxy
          obtain ⟨xk, xi, xa, xb, xn⟩ := x
          simp only at c0 c1 c2 c3 c4 d0 d1 d2 d3 d4
          go_wp2_with fail
          refine wp_region_below (by kernel_rfl) (by kernel_rfl) ?_
          iterate 9 (refine wpQuiet_step (fun K hK => ?_); go_simp; first | (apply Exists.intro; refine ⟨fun W hW => ?_, hK _ ?_⟩; (first | rfl | (have e0 := (hW.cell (p := ⟨b, o + k * 5, none⟩) hbl).trans c0; have e1 := (hW.cell (p := ⟨b, o + k * 5 + 1, none⟩) hbl).trans c1; have e2 := (hW.cell (p := ⟨b, o + k * 5 + 2, none⟩) hbl).trans c2; have e3 := (hW.cell (p := ⟨b, o + k * 5 + 3, none⟩) hbl).trans c3; have e4 := (hW.cell (p := ⟨b, o + k * 5 + 4, none⟩) hbl).trans c4; have f0 := (hW.cell (p := ⟨b2, o2 + k * 5, none⟩) hbl2).trans d0; have f1 := (hW.cell (p := ⟨b2, o2 + k * 5 + 1, none⟩) hbl2).trans d1; have f2 := (hW.cell (p := ⟨b2, o2 + k * 5 + 2, none⟩) hbl2).trans d2; have f3 := (hW.cell (p := ⟨b2, o2 + k * 5 + 3, none⟩) hbl2).trans d3; have f4 := (hW.cell (p := ⟨b2, o2 + k * 5 + 4, none⟩) hbl2).trans d4; go_simp; rfl)); clear hK K) | (refine hK _ ?_; clear hK K))
          refine wpQuiet_nil ?_
          intro W hW
          have hb' := bthen hb hW
          go_wp2
          go_roundw
          case rel => exact ⟨k+1, by omega, by go_num, Lib.hid (by rw [List.take_succ_eq_append_getElem hlt2, List.take_succ_eq_append_getElem h2, HE.out, HX.out, HY.out]), hb'⟩
          case measure => simp [intOf]; omega
        · have HXY := Lib.hid hxy
          obtain ⟨xk, xi, xa, xb, xn⟩ := x
          obtain ⟨yk, yi, ya, yb, yn⟩ := y
          simp only at c0 c1 c2 c3 c4 d0 d1 d2 d3 d4
          by_cases p0 : xk.toList = yk.toList
          case neg =>
            clear hxy
            go_wp2_with fail
            refine wp_region_below (by kernel_rfl) (by kernel_rfl) ?_
            iterate 9 (refine wpQuiet_step (fun K hK => ?_); go_simp; first | (apply Exists.intro; refine ⟨fun W hW => ?_, hK _ ?_⟩; (first | rfl | (have e0 := (hW.cell (p := ⟨b, o + k * 5, none⟩) hbl).trans c0; have e1 := (hW.cell (p := ⟨b, o + k * 5 + 1, none⟩) hbl).trans c1; have e2 := (hW.cell (p := ⟨b, o + k * 5 + 2, none⟩) hbl).trans c2; have e3 := (hW.cell (p := ⟨b, o + k * 5 + 3, none⟩) hbl).trans c3; have e4 := (hW.cell (p := ⟨b, o + k * 5 + 4, none⟩) hbl).trans c4; have f0 := (hW.cell (p := ⟨b2, o2 + k * 5, none⟩) hbl2).trans d0; have f1 := (hW.cell (p := ⟨b2, o2 + k * 5 + 1, none⟩) hbl2).trans d1; have f2 := (hW.cell (p := ⟨b2, o2 + k * 5 + 2, none⟩) hbl2).trans d2; have f3 := (hW.cell (p := ⟨b2, o2 + k * 5 + 3, none⟩) hbl2).trans d3; have f4 := (hW.cell (p := ⟨b2, o2 + k * 5 + 4, none⟩) hbl2).trans d4; go_simp; rfl)); clear hK K) | (refine hK _ ?_; clear hK K))
            refine wpQuiet_nil ?_
            intro W hW
            have hb' := bthen hb hW
            go_wp2
            go_ret
            exact ⟨ret_bool (eqB_no (list_ne_at hlt2 h2 (by rw [HX.out, HY.out]; exact HXY.out))).symm, hb'⟩
          by_cases p1 : xi = yi
          case neg =>
            clear hxy
            go_wp2_with fail
            refine wp_region_below (by kernel_rfl) (by kernel_rfl) ?_
            iterate 9 (refine wpQuiet_step (fun K hK => ?_); go_simp; first | (apply Exists.intro; refine ⟨fun W hW => ?_, hK _ ?_⟩; (first | rfl | (have e0 := (hW.cell (p := ⟨b, o + k * 5, none⟩) hbl).trans c0; have e1 := (hW.cell (p := ⟨b, o + k * 5 + 1, none⟩) hbl).trans c1; have e2 := (hW.cell (p := ⟨b, o + k * 5 + 2, none⟩) hbl).trans c2; have e3 := (hW.cell (p := ⟨b, o + k * 5 + 3, none⟩) hbl).trans c3; have e4 := (hW.cell (p := ⟨b, o + k * 5 + 4, none⟩) hbl).trans c4; have f0 := (hW.cell (p := ⟨b2, o2 + k * 5, none⟩) hbl2).trans d0; have f1 := (hW.cell (p := ⟨b2, o2 + k * 5 + 1, none⟩) hbl2).trans d1; have f2 := (hW.cell (p := ⟨b2, o2 + k * 5 + 2, none⟩) hbl2).trans d2; have f3 := (hW.cell (p := ⟨b2, o2 + k * 5 + 3, none⟩) hbl2).trans d3; have f4 := (hW.cell (p := ⟨b2, o2 + k * 5 + 4, none⟩) hbl2).trans d4; go_simp; rfl)); clear hK K) | (refine hK _ ?_; clear hK K))
            refine wpQuiet_nil ?_
            intro W hW
            have hb' := bthen hb hW
            go_wp2
            go_ret
            exact ⟨ret_bool (eqB_no (list_ne_at hlt2 h2 (by rw [HX.out, HY.out]; exact HXY.out))).symm, hb'⟩
          by_cases p2 : xa.toList = ya.toList
          case neg =>
            clear hxy
            go_wp2_with fail
            refine wp_region_below (by kernel_rfl) (by kernel_rfl) ?_
            iterate 9 (refine wpQuiet_step (fun K hK => ?_); go_simp; first | (apply Exists.intro; refine ⟨fun W hW => ?_, hK _ ?_⟩; (first | rfl | (have e0 := (hW.cell (p := ⟨b, o + k * 5, none⟩) hbl).trans c0; have e1 := (hW.cell (p := ⟨b, o + k * 5 + 1, none⟩) hbl).trans c1; have e2 := (hW.cell (p := ⟨b, o + k * 5 + 2, none⟩) hbl).trans c2; have e3 := (hW.cell (p := ⟨b, o + k * 5 + 3, none⟩) hbl).trans c3; have e4 := (hW.cell (p := ⟨b, o + k * 5 + 4, none⟩) hbl).trans c4; have f0 := (hW.cell (p := ⟨b2, o2 + k * 5, none⟩) hbl2).trans d0; have f1 := (hW.cell (p := ⟨b2, o2 + k * 5 + 1, none⟩) hbl2).trans d1; have f2 := (hW.cell (p := ⟨b2, o2 + k * 5 + 2, none⟩) hbl2).trans d2; have f3 := (hW.cell (p := ⟨b2, o2 + k * 5 + 3, none⟩) hbl2).trans d3; have f4 := (hW.cell (p := ⟨b2, o2 + k * 5 + 4, none⟩) hbl2).trans d4; go_simp; rfl)); clear hK K) | (refine hK _ ?_; clear hK K))
            refine wpQuiet_nil ?_
            intro W hW
            have hb' := bthen hb hW
            go_wp2
            go_ret
            exact ⟨ret_bool (eqB_no (list_ne_at hlt2 h2 (by rw [HX.out, HY.out]; exact HXY.out))).symm, hb'⟩
          by_cases p3 : xb.toList = yb.toList
          case neg =>
            clear hxy
            go_wp2_with fail
            refine wp_region_below (by kernel_rfl) (by kernel_rfl) ?_
            iterate 9 (refine wpQuiet_step (fun K hK => ?_); go_simp; first | (apply Exists.intro; refine ⟨fun W hW => ?_, hK _ ?_⟩; (first | rfl | (have e0 := (hW.cell (p := ⟨b, o + k * 5, none⟩) hbl).trans c0; have e1 := (hW.cell (p := ⟨b, o + k * 5 + 1, none⟩) hbl).trans c1; have e2 := (hW.cell (p := ⟨b, o + k * 5 + 2, none⟩) hbl).trans c2; have e3 := (hW.cell (p := ⟨b, o + k * 5 + 3, none⟩) hbl).trans c3; have e4 := (hW.cell (p := ⟨b, o + k * 5 + 4, none⟩) hbl).trans c4; have f0 := (hW.cell (p := ⟨b2, o2 + k * 5, none⟩) hbl2).trans d0; have f1 := (hW.cell (p := ⟨b2, o2 + k * 5 + 1, none⟩) hbl2).trans d1; have f2 := (hW.cell (p := ⟨b2, o2 + k * 5 + 2, none⟩) hbl2).trans d2; have f3 := (hW.cell (p := ⟨b2, o2 + k * 5 + 3, none⟩) hbl2).trans d3; have f4 := (hW.cell (p := ⟨b2, o2 + k * 5 + 4, none⟩) hbl2).trans d4; go_simp; rfl)); clear hK K) | (refine hK _ ?_; clear hK K))
            refine wpQuiet_nil ?_
            intro W hW
            have hb' := bthen hb hW
            go_wp2
            go_ret
            exact ⟨ret_bool (eqB_no (list_ne_at hlt2 h2 (by rw [HX.out, HY.out]; exact HXY.out))).symm, hb'⟩
          have p4 : ¬ xn = yn := fun h => hxy (by rw [(bytes_eq_iff _ _).1 p0]; rw [p1]; rw [(bytes_eq_iff _ _).1 p2]; rw [(bytes_eq_iff _ _).1 p3]; rw [h])
          clear hxy
          go_wp2_with fail
          refine wp_region_below (by kernel_rfl) (by kernel_rfl) ?_
          iterate 9 (refine wpQuiet_step (fun K hK => ?_); go_simp; first | (apply Exists.intro; refine ⟨fun W hW => ?_, hK _ ?_⟩; (first | rfl | (have e0 := (hW.cell (p := ⟨b, o + k * 5, none⟩) hbl).trans c0; have e1 := (hW.cell (p := ⟨b, o + k * 5 + 1, none⟩) hbl).trans c1; have e2 := (hW.cell (p := ⟨b, o + k * 5 + 2, none⟩) hbl).trans c2; have e3 := (hW.cell (p := ⟨b, o + k * 5 + 3, none⟩) hbl).trans c3; have e4 := (hW.cell (p := ⟨b, o + k * 5 + 4, none⟩) hbl).trans c4; have f0 := (hW.cell (p := ⟨b2, o2 + k * 5, none⟩) hbl2).trans d0; have f1 := (hW.cell (p := ⟨b2, o2 + k * 5 + 1, none⟩) hbl2).trans d1; have f2 := (hW.cell (p := ⟨b2, o2 + k * 5 + 2, none⟩) hbl2).trans d2; have f3 := (hW.cell (p := ⟨b2, o2 + k * 5 + 3, none⟩) hbl2).trans d3; have f4 := (hW.cell (p := ⟨b2, o2 + k * 5 + 4, none⟩) hbl2).trans d4; go_simp; rfl)); clear hK K) | (refine hK _ ?_; clear hK K))
          refine wpQuiet_nil ?_
          intro W hW
          have hb' := bthen hb hW
          go_wp2
          go_ret
          exact ⟨ret_bool (eqB_no (list_ne_at hlt2 h2 (by rw [HX.out, HY.out]; exact HXY.out))).symm, hb'⟩
      · obtain rfl : k = l.length := by omega
        have he := HE.out
        go_wp2
        go_ret
        exact ⟨ret_bool (eqB_yes (by rw [← List.take_length (l := l), he, HL.out, List.take_length])).symm, hb⟩
  · have hlb : (((l.length : Int) != (l2.length : Int)) = true) := by simp; omega
    have HL := Lib.hid hlt
    clear hlt
    go_enter Try.func88, Try.ntmps88
    go_wp2
    go_ret
    exact ⟨ret_bool (eqB_no (by rintro rfl; exact HL.out rfl)).symm, Below.refl _ _⟩
set_option maxRecDepth 100000 in
set_option maxHeartbeats 2000000 in
theorem equalV_any (A A2 : Option Addr) (l l2 : List Ver) (c c2 : Nat) (w : World) (hn : l.length ≤ 1048576) (hn2 : l2.length ≤ 1048576) (hS : Sl encVer 4 w A l) (hS2 : Sl encVer 4 w A2 l2) :
    Calls Try.prog 70 #[.slice A l.length c, .slice A2 l2.length c2] w fun e w' => e = .returned (.bool (eqB l l2)) ∧ Below w.heap.size w w' := by
  by_cases hlt : l.length = l2.length
  · have hlb : (((l.length : Int) != (l2.length : Int)) = false) := by simp [hlt]
    have HL := Lib.hid hlt
    clear hlt
    go_enter Try.func70, Try.ntmps70
    go_wp2
    go_loopw [13] (fun i wr => ∃ k : Nat, k ≤ l.length ∧ i = .int .i64 k ∧ Hid (l.take k = l2.take k) ∧ Below w.heap.size w wr) (fun i _ => l.length - (intOf i).toNat)
    case atStart => exact ⟨0, by omega, rfl, Lib.hid rfl, Below.refl _ _⟩
    case round =>
      obtain ⟨k, hk, rfl, HE, hb⟩ := hrel
      by_cases hlt2 : k < l.length
      · have h2 : k < l2.length := HL.out ▸ hlt2
        obtain ⟨b, o, rfl, hbl, c0, c1, c2, c3⟩ := Sl.at4 (hS.below hb) hlt2
        obtain ⟨b2, o2, rfl, hbl2, d0, d1, d2, d3⟩ := Sl.at4 (hS2.below hb) h2
        generalize hx : l[k] = x at *
        generalize hy : l2[k] = y at *
        have HX := Lib.hid hx
        have HY := Lib.hid hy
        have hki : (k : Int) < (l.length : Int) := by omega
        have hki2 : (k : Int) < (l2.length : Int) := by omega
        clear hx hy hS hS2
        by_cases hxy : x = y
        · have HXY := Lib.hid hxy
          subst hxy
          obtain ⟨xk, xn, xf, xt⟩ := x
          simp only at c0 c1 c2 c3 d0 d1 d2 d3
          go_wp2_with fail
          refine wp_region_below (by kernel_rfl) (by kernel_rfl) ?_
          iterate 9 (refine wpQuiet_step (fun K hK => ?_); go_simp; first | (apply Exists.intro; refine ⟨fun W hW => ?_, hK _ ?_⟩; (first | rfl | (have e0 := (hW.cell (p := ⟨b, o + k * 4, none⟩) hbl).trans c0; have e1 := (hW.cell (p := ⟨b, o + k * 4 + 1, none⟩) hbl).trans c1; have e2 := (hW.cell (p := ⟨b, o + k * 4 + 2, none⟩) hbl).trans c2; have e3 := (hW.cell (p := ⟨b, o + k * 4 + 3, none⟩) hbl).trans c3; have f0 := (hW.cell (p := ⟨b2, o2 + k * 4, none⟩) hbl2).trans d0; have f1 := (hW.cell (p := ⟨b2, o2 + k * 4 + 1, none⟩) hbl2).trans d1; have f2 := (hW.cell (p := ⟨b2, o2 + k * 4 + 2, none⟩) hbl2).trans d2; have f3 := (hW.cell (p := ⟨b2, o2 + k * 4 + 3, none⟩) hbl2).trans d3; go_simp; rfl)); clear hK K) | (refine hK _ ?_; clear hK K))
          refine wpQuiet_nil ?_
          intro W hW
          have hb' := bthen hb hW
          go_wp2
          go_roundw
          case rel => exact ⟨k+1, by omega, by go_num, Lib.hid (by rw [List.take_succ_eq_append_getElem hlt2, List.take_succ_eq_append_getElem h2, HE.out, HX.out, HY.out]), hb'⟩
          case measure => simp [intOf]; omega
        · have HXY := Lib.hid hxy
          obtain ⟨xk, xn, xf, xt⟩ := x
          obtain ⟨yk, yn, yf, yt⟩ := y
          simp only at c0 c1 c2 c3 d0 d1 d2 d3
          by_cases p0 : xk.toList = yk.toList
          case neg =>
            clear hxy
            go_wp2_with fail
            refine wp_region_below (by kernel_rfl) (by kernel_rfl) ?_
            iterate 9 (refine wpQuiet_step (fun K hK => ?_); go_simp; first | (apply Exists.intro; refine ⟨fun W hW => ?_, hK _ ?_⟩; (first | rfl | (have e0 := (hW.cell (p := ⟨b, o + k * 4, none⟩) hbl).trans c0; have e1 := (hW.cell (p := ⟨b, o + k * 4 + 1, none⟩) hbl).trans c1; have e2 := (hW.cell (p := ⟨b, o + k * 4 + 2, none⟩) hbl).trans c2; have e3 := (hW.cell (p := ⟨b, o + k * 4 + 3, none⟩) hbl).trans c3; have f0 := (hW.cell (p := ⟨b2, o2 + k * 4, none⟩) hbl2).trans d0; have f1 := (hW.cell (p := ⟨b2, o2 + k * 4 + 1, none⟩) hbl2).trans d1; have f2 := (hW.cell (p := ⟨b2, o2 + k * 4 + 2, none⟩) hbl2).trans d2; have f3 := (hW.cell (p := ⟨b2, o2 + k * 4 + 3, none⟩) hbl2).trans d3; go_simp; rfl)); clear hK K) | (refine hK _ ?_; clear hK K))
            refine wpQuiet_nil ?_
            intro W hW
            have hb' := bthen hb hW
            go_wp2
            go_ret
            exact ⟨ret_bool (eqB_no (list_ne_at hlt2 h2 (by rw [HX.out, HY.out]; exact HXY.out))).symm, hb'⟩
          by_cases p1 : xn = yn
          case neg =>
            clear hxy
            go_wp2_with fail
            refine wp_region_below (by kernel_rfl) (by kernel_rfl) ?_
            iterate 9 (refine wpQuiet_step (fun K hK => ?_); go_simp; first | (apply Exists.intro; refine ⟨fun W hW => ?_, hK _ ?_⟩; (first | rfl | (have e0 := (hW.cell (p := ⟨b, o + k * 4, none⟩) hbl).trans c0; have e1 := (hW.cell (p := ⟨b, o + k * 4 + 1, none⟩) hbl).trans c1; have e2 := (hW.cell (p := ⟨b, o + k * 4 + 2, none⟩) hbl).trans c2; have e3 := (hW.cell (p := ⟨b, o + k * 4 + 3, none⟩) hbl).trans c3; have f0 := (hW.cell (p := ⟨b2, o2 + k * 4, none⟩) hbl2).trans d0; have f1 := (hW.cell (p := ⟨b2, o2 + k * 4 + 1, none⟩) hbl2).trans d1; have f2 := (hW.cell (p := ⟨b2, o2 + k * 4 + 2, none⟩) hbl2).trans d2; have f3 := (hW.cell (p := ⟨b2, o2 + k * 4 + 3, none⟩) hbl2).trans d3; go_simp; rfl)); clear hK K) | (refine hK _ ?_; clear hK K))
            refine wpQuiet_nil ?_
            intro W hW
            have hb' := bthen hb hW
            go_wp2
            go_ret
            exact ⟨ret_bool (eqB_no (list_ne_at hlt2 h2 (by rw [HX.out, HY.out]; exact HXY.out))).symm, hb'⟩
          by_cases p2 : xf = yf
          case neg =>
            clear hxy
            go_wp2_with fail
            refine wp_region_below (by kernel_rfl) (by kernel_rfl) ?_
            iterate 9 (refine wpQuiet_step (fun K hK => ?_); go_simp; first | (apply Exists.intro; refine ⟨fun W hW => ?_, hK _ ?_⟩; (first | rfl | (have e0 := (hW.cell (p := ⟨b, o + k * 4, none⟩) hbl).trans c0; have e1 := (hW.cell (p := ⟨b, o + k * 4 + 1, none⟩) hbl).trans c1; have e2 := (hW.cell (p := ⟨b, o + k * 4 + 2, none⟩) hbl).trans c2; have e3 := (hW.cell (p := ⟨b, o + k * 4 + 3, none⟩) hbl).trans c3; have f0 := (hW.cell (p := ⟨b2, o2 + k * 4, none⟩) hbl2).trans d0; have f1 := (hW.cell (p := ⟨b2, o2 + k * 4 + 1, none⟩) hbl2).trans d1; have f2 := (hW.cell (p := ⟨b2, o2 + k * 4 + 2, none⟩) hbl2).trans d2; have f3 := (hW.cell (p := ⟨b2, o2 + k * 4 + 3, none⟩) hbl2).trans d3; go_simp; rfl)); clear hK K) | (refine hK _ ?_; clear hK K))
            refine wpQuiet_nil ?_
            intro W hW
            have hb' := bthen hb hW
            go_wp2
            go_ret
            exact ⟨ret_bool (eqB_no (list_ne_at hlt2 h2 (by rw [HX.out, HY.out]; exact HXY.out))).symm, hb'⟩
          have p3 : ¬ xt = yt := fun h => hxy (by rw [(bytes_eq_iff _ _).1 p0]; rw [p1]; rw [p2]; rw [h])
          clear hxy
          go_wp2_with fail
          refine wp_region_below (by kernel_rfl) (by kernel_rfl) ?_
          iterate 9 (refine wpQuiet_step (fun K hK => ?_); go_simp; first | (apply Exists.intro; refine ⟨fun W hW => ?_, hK _ ?_⟩; (first | rfl | (have e0 := (hW.cell (p := ⟨b, o + k * 4, none⟩) hbl).trans c0; have e1 := (hW.cell (p := ⟨b, o + k * 4 + 1, none⟩) hbl).trans c1; have e2 := (hW.cell (p := ⟨b, o + k * 4 + 2, none⟩) hbl).trans c2; have e3 := (hW.cell (p := ⟨b, o + k * 4 + 3, none⟩) hbl).trans c3; have f0 := (hW.cell (p := ⟨b2, o2 + k * 4, none⟩) hbl2).trans d0; have f1 := (hW.cell (p := ⟨b2, o2 + k * 4 + 1, none⟩) hbl2).trans d1; have f2 := (hW.cell (p := ⟨b2, o2 + k * 4 + 2, none⟩) hbl2).trans d2; have f3 := (hW.cell (p := ⟨b2, o2 + k * 4 + 3, none⟩) hbl2).trans d3; go_simp; rfl)); clear hK K) | (refine hK _ ?_; clear hK K))
          refine wpQuiet_nil ?_
          intro W hW
          have hb' := bthen hb hW
          go_wp2
          go_ret
          exact ⟨ret_bool (eqB_no (list_ne_at hlt2 h2 (by rw [HX.out, HY.out]; exact HXY.out))).symm, hb'⟩
      · obtain rfl : k = l.length := by omega
        have he := HE.out
        go_wp2
        go_ret
        exact ⟨ret_bool (eqB_yes (by rw [← List.take_length (l := l), he, HL.out, List.take_length])).symm, hb⟩
  · have hlb : (((l.length : Int) != (l2.length : Int)) = true) := by simp; omega
    have HL := Lib.hid hlt
    clear hlt
    go_enter Try.func70, Try.ntmps70
    go_wp2
    go_ret
    exact ⟨ret_bool (eqB_no (by rintro rfl; exact HL.out rfl)).symm, Below.refl _ _⟩
end Go.Proofs.Yteanjfjlmpgnnaa
