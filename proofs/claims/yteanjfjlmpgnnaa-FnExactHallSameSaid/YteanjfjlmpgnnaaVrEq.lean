/- The laws' equality of versions and of stores. -/
import Derived.Test.YteanjfjlmpgnnaaRows
import Derived.Test.YteanjfjlmpgnnaaVerC
import Derived.Test.YteanjfjlmpgnnaaLetD
namespace Go.Proofs.Yteanjfjlmpgnnaa
open Go.RowKit
set_option maxHeartbeats 400000 in
theorem eqVer_any (x y : Ver) (w : World)  :
    Calls Try.prog 130 #[.agg #[.string x.1, .int .i64 x.2.1, .int .i64 x.2.2.1, .int .i64 x.2.2.2], .agg #[.string y.1, .int .i64 y.2.1, .int .i64 y.2.2.1, .int .i64 y.2.2.2]] w fun e w' => e = .returned (.bool (eqB x y)) ∧ Below w.heap.size w w' := by
  have hbl : Below w.heap.size w ((w.alloc (.cells #[.string x.1, .int .i64 x.2.1, .int .i64 x.2.2.1, .int .i64 x.2.2.2] 92)).alloc (.cells #[.string y.1, .int .i64 y.2.1, .int .i64 y.2.2.1, .int .i64 y.2.2.2] 92)) := ((Below.refl _ _).alloc (Nat.le_refl _) _).alloc (by simp) _
  go_enter Try.func130, Try.ntmps130
  go_wp2
  all_goals
    go_ret
    refine ⟨ret_bool ?_, hbl⟩
    simp_all [eqB, bytes_beq, Prod.ext_iff]

set_option maxHeartbeats 400000 in
theorem eqVerS_any (A A2 : Option Addr) (l l2 : List Ver) (c c2 : Nat) (w : World) (hn : l.length ≤ maxLen) (hn2 : l2.length ≤ maxLen) (hR : Sl encVer 4 w A l) (hR2 : Sl encVer 4 w A2 l2) :
    Calls Try.prog 80 #[.slice A l.length c, .slice A2 l2.length c2] w fun e w' => e = .returned (.bool (eqB l l2)) ∧ Below w.heap.size w w' := by
  unfold maxLen at hn hn2
  by_cases hlt : l.length = l2.length
  · have hlb : (((l.length : Int) != (l2.length : Int)) = false) := by simp [hlt]
    have HL := Lib.hid hlt
    clear hlt
    go_enter Try.func80, Try.ntmps80
    go_wp2
    go_loopw [5] (fun i wr => ∃ k : Nat, k ≤ l.length ∧ i = .int .i64 k ∧ l.take k = l2.take k ∧ Below w.heap.size w wr) (fun i _ => l.length - (intOf i).toNat)
    case atStart => exact ⟨0, by omega, rfl, rfl, Below.refl _ _⟩
    case round =>
      obtain ⟨k, hk, rfl, he, hb⟩ := hrel
      have HE := Lib.hid he
      clear he
      by_cases hlt2 : k < l.length
      · have h2 : k < l2.length := HL.out ▸ hlt2
        obtain ⟨b, o, rfl, hbl, c0, c1, c2, c3⟩ := Sl.at4 (hR.below hb) hlt2
        obtain ⟨b2, o2, rfl, hbl2, d0, d1, d2, d3⟩ := Sl.at4 (hR2.below hb) h2
        generalize hx : l[k] = x at *
        generalize hy : l2[k] = y at *
        have HX := Lib.hid hx
        have HY := Lib.hid hy
        clear hx hy hR hR2
        go_wp2_with fail
        refine wp_region_below (by kernel_rfl) (by kernel_rfl) ?_
        iterate 10 (refine wpQuiet_step (fun K hK => ?_); go_simp; first | (apply Exists.intro; refine ⟨fun W hW => ?_, hK _ ?_⟩; (first | rfl | (go_at_call 130; exact quiet_call hW (Nat.le_refl _) (eqVer_any x y _)) | (have e0 := (hW.cell (p := ⟨b, o + k * 4, none⟩) hbl).trans c0; have e1 := (hW.cell (p := ⟨b, o + k * 4 + 1, none⟩) hbl).trans c1; have e2 := (hW.cell (p := ⟨b, o + k * 4 + 2, none⟩) hbl).trans c2; have f0 := (hW.cell (p := ⟨b2, o2 + k * 4, none⟩) hbl2).trans d0; have f1 := (hW.cell (p := ⟨b2, o2 + k * 4 + 1, none⟩) hbl2).trans d1; have f2 := (hW.cell (p := ⟨b2, o2 + k * 4 + 2, none⟩) hbl2).trans d2; have e3 := (hW.cell (p := ⟨b, o + k * 4 + 3, none⟩) hbl).trans c3; have f3 := (hW.cell (p := ⟨b2, o2 + k * 4 + 3, none⟩) hbl2).trans d3; go_simp; rfl)); clear hK K) | (refine hK _ ?_; clear hK K))
        refine wpQuiet_nil ?_
        intro W hW
        have hb' := bthen hb hW
        go_wp2
        · have hxy := eqB_ne (x := x) (y := y) (by assumption)
          go_ret
          exact ⟨ret_bool (eqB_no (list_ne_at hlt2 h2 (by rw [HX.out, HY.out]; exact hxy))).symm, hb'⟩
        · have HXY := Lib.hid (eqB_eq (x := x) (y := y) (by assumption))
          go_roundw
          case rel => exact ⟨k+1, by omega, by go_num, by rw [List.take_succ_eq_append_getElem hlt2, List.take_succ_eq_append_getElem h2, HE.out, HX.out, HY.out, HXY.out], hb'⟩
          case measure => simp [intOf]; omega
      · obtain rfl : k = l.length := by omega
        go_wp2
        go_ret
        exact ⟨ret_bool (eqB_yes (by rw [← List.take_length (l := l), HE.out, HL.out, List.take_length])).symm, hb⟩
  · have hlb : (((l.length : Int) != (l2.length : Int)) = true) := by simp; omega
    have HL := Lib.hid hlt
    clear hlt
    go_enter Try.func80, Try.ntmps80
    go_wp2
    go_ret
    exact ⟨ret_bool (eqB_no (by rintro rfl; exact HL.out rfl)).symm, Below.refl _ _⟩
set_option maxHeartbeats 400000 in
theorem eqVers_same (A A2 : Option Addr) (l : List Ver) (c c2 : Nat) (now : Int) (w : World) (hn : l.length ≤ maxLen) (hR : Sl encVer 4 w A l) (hR2 : Sl encVer 4 w A2 l) :
    Calls Try.prog 42 #[.agg #[.int .i64 now, .slice A l.length c], .agg #[.int .i64 now, .slice A2 l.length c2]] w fun e w' => e = .returned (.bool true) ∧ Below w.heap.size w w' := by
  have hb0 := ((Below.refl w.heap.size w).alloc (Nat.le_refl _) (.cells #[.int .i64 now, .slice A l.length c] 32)).alloc (by simp) (.cells #[.int .i64 now, .slice A2 l.length c2] 32)
  have HC := Lib.hid (eqVerS_any A A2 l l c c2 _ hn hn (hR.below hb0) (hR2.below hb0))
  clear hR hR2
  go_enter Try.func42, Try.ntmps42
  go_wp2_with fail
  refine HC.out.mono ?_
  rintro e w1 ⟨rfl, hb1⟩
  rw [eqB_yes rfl]
  go_wp2
  go_ret
  exact ⟨rfl, bthen hb0 hb1⟩
end Go.Proofs.Yteanjfjlmpgnnaa
