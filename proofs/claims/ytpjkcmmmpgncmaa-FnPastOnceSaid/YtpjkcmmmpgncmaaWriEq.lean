/- The laws' equality of writes and of rows of writes. -/
import Derived.Test.YtpjkcmmmpgncmaaRows
import Derived.Test.YtpjkcmmmpgncmaaWriD
namespace Go.Proofs.Ytpjkcmmmpgncmaa
open Go.RowKit
set_option maxHeartbeats 400000 in
theorem eqWrite_any (x y : Wri) (w : World)  :
    Calls Try.prog 198 #[.agg #[.string x.1, .int .i64 x.2.1, .bool x.2.2], .agg #[.string y.1, .int .i64 y.2.1, .bool y.2.2]] w fun e w' => e = .returned (.bool (eqB x y)) ∧ Below w.heap.size w w' := by
  have hbl : Below w.heap.size w ((w.alloc (.cells #[.string x.1, .int .i64 x.2.1, .bool x.2.2] 46)).alloc (.cells #[.string y.1, .int .i64 y.2.1, .bool y.2.2] 46)) := ((Below.refl _ _).alloc (Nat.le_refl _) _).alloc (by simp) _
  go_enter Try.func198, Try.ntmps198
  go_wp2
  all_goals
    go_ret
    refine ⟨ret_bool ?_, hbl⟩
    simp_all [eqB, bytes_beq, Prod.ext_iff]

set_option maxHeartbeats 400000 in
theorem eqWriteS_any (A A2 : Option Addr) (l l2 : List Wri) (c c2 : Nat) (w : World) (hn : l.length ≤ maxLen) (hn2 : l2.length ≤ maxLen) (hR : Sl encWri 3 w A l) (hR2 : Sl encWri 3 w A2 l2) :
    Calls Try.prog 173 #[.slice A l.length c, .slice A2 l2.length c2] w fun e w' => e = .returned (.bool (eqB l l2)) ∧ Below w.heap.size w w' := by
  unfold maxLen at hn hn2
  by_cases hlt : l.length = l2.length
  · have hlb : (((l.length : Int) != (l2.length : Int)) = false) := by simp [hlt]
    have HL := Lib.hid hlt
    clear hlt
    go_enter Try.func173, Try.ntmps173
    go_wp2
    go_loopw [5] (fun i wr => ∃ k : Nat, k ≤ l.length ∧ i = .int .i64 k ∧ l.take k = l2.take k ∧ Below w.heap.size w wr) (fun i _ => l.length - (intOf i).toNat)
    case atStart => exact ⟨0, by omega, rfl, rfl, Below.refl _ _⟩
    case round =>
      obtain ⟨k, hk, rfl, he, hb⟩ := hrel
      have HE := Lib.hid he
      clear he
      by_cases hlt2 : k < l.length
      · have h2 : k < l2.length := HL.out ▸ hlt2
        obtain ⟨b, o, rfl, hbl, c0, c1, c2⟩ := Sl.at3 (hR.below hb) hlt2
        obtain ⟨b2, o2, rfl, hbl2, d0, d1, d2⟩ := Sl.at3 (hR2.below hb) h2
        generalize hx : l[k] = x at *
        generalize hy : l2[k] = y at *
        have HX := Lib.hid hx
        have HY := Lib.hid hy
        clear hx hy hR hR2
        go_wp2_with fail
        refine wp_region_below (by kernel_rfl) (by kernel_rfl) ?_
        iterate 10 (refine wpQuiet_step (fun K hK => ?_); go_simp; first | (apply Exists.intro; refine ⟨fun W hW => ?_, hK _ ?_⟩; (first | rfl | (go_at_call 198; exact quiet_call hW (Nat.le_refl _) (eqWrite_any x y _)) | (have e0 := (hW.cell (p := ⟨b, o + k * 3, none⟩) hbl).trans c0; have e1 := (hW.cell (p := ⟨b, o + k * 3 + 1, none⟩) hbl).trans c1; have e2 := (hW.cell (p := ⟨b, o + k * 3 + 2, none⟩) hbl).trans c2; have f0 := (hW.cell (p := ⟨b2, o2 + k * 3, none⟩) hbl2).trans d0; have f1 := (hW.cell (p := ⟨b2, o2 + k * 3 + 1, none⟩) hbl2).trans d1; have f2 := (hW.cell (p := ⟨b2, o2 + k * 3 + 2, none⟩) hbl2).trans d2; go_simp; rfl)); clear hK K) | (refine hK _ ?_; clear hK K))
        refine wpQuiet_nil ?_
        intro W hW
        have hb' := bthen hb hW
        go_wp2
        · have hxy := eqB_ne (x := x) (y := y) (by assumption)
          go_ret
          exact ⟨ret_bool (eqB_no (list_ne_at hlt2 h2 (by rw [HX.out, HY.out]; exact hxy))).symm, hb'⟩
        · have HXY := Lib.hid (eqB_eq (x := x) (y := y) (by assumption))
          go_roundw
          case rel => exact ⟨k+1, by omega, by go_num, by rw [List.take_succ_eq_append_getElem hlt2, List.take_succ_eq_append_getElem h2, HE.out, HX.out, HY.out, HXY.out], hb'⟩
          case measure => simp [intOf]; omega
      · obtain rfl : k = l.length := by omega
        go_wp2
        go_ret
        exact ⟨ret_bool (eqB_yes (by rw [← List.take_length (l := l), HE.out, HL.out, List.take_length])).symm, hb⟩
  · have hlb : (((l.length : Int) != (l2.length : Int)) = true) := by simp; omega
    have HL := Lib.hid hlt
    clear hlt
    go_enter Try.func173, Try.ntmps173
    go_wp2
    go_ret
    exact ⟨ret_bool (eqB_no (by rintro rfl; exact HL.out rfl)).symm, Below.refl _ _⟩
end Go.Proofs.Ytpjkcmmmpgncmaa
