/- A write alone and rows of writes: whether they are right; the program's tests. -/
import Derived.Test.YtpjkcmmmpgncmaaKeyA
import Derived.Test.YtpjkcmmmpgncmaaWriD
import Derived.Test.YtpjkcmmmpgncmaaVerA
namespace Go.Proofs.Ytpjkcmmmpgncmaa
open Go.RowKit
def wriB (x : Wri) : Bool := keyB x.1 && numB x.2.1 && (!x.2.2 || x.2.1 == 0)
open Classical in
noncomputable def wrsB (most : Nat) (l : List Wri) : Bool := decide (l.length ≤ most ∧ (∀ x ∈ l, wriB x = true) ∧ ∀ (i : Nat) (x y : Wri), l[i]? = some x → l[i + 1]? = some y → ltB x.1 y.1 = true)
set_option maxHeartbeats 1000000 in
theorem wriOk_any (x : Wri) (w : World) (hs : x.1.size ≤ maxLen) :
    Calls Try.prog 89 #[.agg #[.string x.1, .int .i64 x.2.1, .bool x.2.2]] w fun e w' => e = .returned (.bool (wriB x)) ∧ Below w.heap.size w w' := by
  obtain ⟨k, n, gn⟩ := x
  simp only at hs ⊢
  have hbw : ∀ o, Below w.heap.size w (w.alloc o) := fun o => (Below.refl _ _).alloc (Nat.le_refl _) _
  cases gn <;> (cases hk : keyB k) <;> (cases hnb : numB n)
  all_goals
    go_enter Try.func89, Try.ntmps89
    go_wp2_with (first
      | (go_at_call 110; refine (implKeyOk_any _ _ hs).mono ?_; rintro e w' ⟨rfl, rfl⟩; rw [hk])
      | (go_at_call 111; refine (implNumOk_any _ _).mono ?_; rintro e w' ⟨rfl, rfl⟩; rw [hnb]))
    go_ret
    exact ⟨ret_bool (by unfold wriB; simp_all), hbw _⟩
set_option maxHeartbeats 400000 in
theorem writeKey_any (x : Wri) (w : World) :
    Calls Try.prog 91 #[.agg #[.string x.1, .int .i64 x.2.1, .bool x.2.2]] w fun e w' => e = .returned (.string x.1) ∧ Below w.heap.size w w' := by
  have hbw : ∀ o, Below w.heap.size w (w.alloc o) := fun o => (Below.refl _ _).alloc (Nat.le_refl _) _
  go_enter Try.func91, Try.ntmps91
  go_wp2
  go_ret
  exact ⟨rfl, hbw _⟩
def ascP (l : List Wri) (k : Nat) : Prop := ∀ (i : Nat) (x y : Wri), i + 1 < k → l[i]? = some x → l[i + 1]? = some y → ltB x.1 y.1 = true
open Classical in
noncomputable def asc (l : List Wri) : Bool := decide (ascP l l.length)
theorem asc_yes {l : List Wri} (h : ascP l l.length) : asc l = true := by unfold asc; simpa using h
theorem asc_no {l : List Wri} (h : ¬ ascP l l.length) : asc l = false := by unfold asc; simpa using h
set_option maxHeartbeats 1000000 in
theorem ascending_any (A : Option Addr) (l : List Wri) (c : Nat) (w : World) (hn : l.length ≤ 1048576) (hR : Sl encWri 3 w A l) :
    Calls Try.prog 90 #[.slice A l.length c, .func (.func 91) #[] #[]] w fun e w' => e = .returned (.bool (asc l)) ∧ Below w.heap.size w w' := by
  go_enter Try.func90, Try.ntmps90
  go_wp2
  go_loopw [5] (fun i wr => ∃ k : Nat, 1 ≤ k ∧ (k ≤ l.length ∨ k = 1) ∧ i = .int .i64 k ∧ ascP l k ∧ Below w.heap.size w wr) (fun i _ => l.length - (intOf i).toNat)
  case atStart => exact ⟨1, by omega, .inr rfl, rfl, fun i x y h => absurd h (by omega), Below.refl _ _⟩
  case round =>
    obtain ⟨k, hk1, hk, rfl, hasc, hb⟩ := hrel
    have HA := Lib.hid hasc
    clear hasc
    by_cases hlt : k < l.length
    · obtain ⟨m, rfl⟩ : ∃ m, k = m + 1 := ⟨k - 1, by omega⟩
      obtain ⟨b, o, rfl, hbl, c0, c1, c2⟩ := Sl.at3 (hR.below hb) (show m < l.length by omega)
      obtain ⟨b', o', e', _, d0, d1, d2⟩ := Sl.at3 (hR.below hb) hlt
      simp at e'
      obtain ⟨rfl, rfl⟩ := e'
      have HX := Lib.hid (List.getElem?_eq_getElem (show m < l.length by omega))
      have HY := Lib.hid (List.getElem?_eq_getElem hlt)
      generalize l[m] = x at *
      generalize l[m + 1] = y at *
      have e0 : ((m + 1 : Nat) : Int) - 1 = (m : Int) := by omega
      have e0' : (m : Int) + 1 - 1 = (m : Int) := by omega
      have hml : (m : Int) < l.length := by omega
      have hml2 : (m : Int) + 1 < l.length := by omega
      have hml3 : (0 : Int) ≤ (m : Int) + 1 := by omega
      have hwm : IntKind.i64.wrap (m : Int) = (m : Int) := by rw [IntKind.wrap_i64]; omega
      cases hq : ltB x.1 y.1
      · have hge : (!(Op.bytesLess x.1.toList y.1.toList)) = true := by rw [show Op.bytesLess x.1.toList y.1.toList = false from hq]; rfl
        go_wp2_with fail
        refine wp_region_below (by kernel_rfl) (by kernel_rfl) ?_
        iterate 14 (refine wpQuiet_step (fun K hK => ?_); go_simp; first | (apply Exists.intro; refine ⟨fun W hW => ?_, hK _ ?_⟩; (first | rfl | (go_at_call 91; exact quiet_call hW (Nat.le_refl _) (writeKey_any _ _)) | (have e0 := (hW.cell (p := ⟨b, o + m * 3, none⟩) hbl).trans c0; have e1 := (hW.cell (p := ⟨b, o + m * 3 + 1, none⟩) hbl).trans c1; have e2 := (hW.cell (p := ⟨b, o + m * 3 + 2, none⟩) hbl).trans c2; have f0 := (hW.cell (p := ⟨b, o + (m + 1) * 3, none⟩) hbl).trans d0; have f1 := (hW.cell (p := ⟨b, o + (m + 1) * 3 + 1, none⟩) hbl).trans d1; have f2 := (hW.cell (p := ⟨b, o + (m + 1) * 3 + 2, none⟩) hbl).trans d2; go_simp; rfl)); clear hK K) | (refine hK _ ?_; clear hK K))
        refine wpQuiet_nil ?_
        intro W hW
        have hb' := bthen hb hW
        go_wp2
        go_ret
        exact ⟨ret_bool (asc_no (fun h => by have := h m x y (by omega) HX.out HY.out; rw [hq] at this; cases this)).symm, hb'⟩
      · have hge : (!(Op.bytesLess x.1.toList y.1.toList)) = false := by rw [show Op.bytesLess x.1.toList y.1.toList = true from hq]; rfl
        go_wp2_with fail
        refine wp_region_below (by kernel_rfl) (by kernel_rfl) ?_
        iterate 14 (refine wpQuiet_step (fun K hK => ?_); go_simp; first | (apply Exists.intro; refine ⟨fun W hW => ?_, hK _ ?_⟩; (first | rfl | (go_at_call 91; exact quiet_call hW (Nat.le_refl _) (writeKey_any _ _)) | (have e0 := (hW.cell (p := ⟨b, o + m * 3, none⟩) hbl).trans c0; have e1 := (hW.cell (p := ⟨b, o + m * 3 + 1, none⟩) hbl).trans c1; have e2 := (hW.cell (p := ⟨b, o + m * 3 + 2, none⟩) hbl).trans c2; have f0 := (hW.cell (p := ⟨b, o + (m + 1) * 3, none⟩) hbl).trans d0; have f1 := (hW.cell (p := ⟨b, o + (m + 1) * 3 + 1, none⟩) hbl).trans d1; have f2 := (hW.cell (p := ⟨b, o + (m + 1) * 3 + 2, none⟩) hbl).trans d2; go_simp; rfl)); clear hK K) | (refine hK _ ?_; clear hK K))
        refine wpQuiet_nil ?_
        intro W hW
        have hb' := bthen hb hW
        go_wp2
        go_roundw
        case rel => exact ⟨m + 1 + 1, by omega, .inl (by omega), by go_num, fun i x' y' h h1 h2 => by
          by_cases him : i + 1 < m + 1
          · exact HA.out i x' y' him h1 h2
          · obtain rfl : i = m := by omega
            rw [HX.out] at h1; rw [HY.out] at h2
            injection h1 with h1; injection h2 with h2
            subst h1; subst h2; exact hq, hb'⟩
        case measure => simp [intOf]; omega
    · go_wp2
      go_ret
      exact ⟨ret_bool (asc_yes (fun i x y h => HA.out i x y (by omega))).symm, hb⟩
theorem wrsB_iff {most : Nat} {l : List Wri} : wrsB most l = true ↔ l.length ≤ most ∧ (∀ x ∈ l, wriB x = true) ∧ asc l = true := by
  have h : asc l = true ↔ ∀ (i : Nat) (x y : Wri), l[i]? = some x → l[i + 1]? = some y → ltB x.1 y.1 = true := by
    unfold asc ascP
    simp only [decide_eq_true_eq]
    exact ⟨fun h i x y h1 h2 => h i x y (List.getElem?_eq_some_iff.1 h2).1 h1 h2, fun h i x y _ h1 h2 => h i x y h1 h2⟩
  rw [h]
  unfold wrsB
  simp only [decide_eq_true_eq]
set_option maxHeartbeats 1000000 in
theorem upTo_any (A : Option Addr) (l : List Wri) (c most : Nat) (w : World) (hf : FitsW l) (hn : l.length ≤ 1048576) (hR : Sl encWri 3 w A l) :
    Calls Try.prog 52 #[.slice A l.length c, .int .i64 most] w fun e w' => e = .returned (.bool (wrsB most l)) ∧ Below w.heap.size w w' := by
  by_cases hm : l.length ≤ most
  · have d0 : decide ((most : Int) < (l.length : Int)) = false := decide_eq_false (by omega)
    have d0n : decide (most < l.length) = false := decide_eq_false (by omega)
    go_enter Try.func52, Try.ntmps52
    go_wp2
    go_loopw [13] (fun i wr => ∃ k : Nat, k ≤ l.length ∧ i = .int .i64 k ∧ (∀ j x, j < k → l[j]? = some x → wriB x = true) ∧ Below w.heap.size w wr) (fun i _ => l.length - (intOf i).toNat)
    case atStart => exact ⟨0, by omega, rfl, fun j x h => absurd h (by omega), Below.refl _ _⟩
    case round =>
      obtain ⟨k, hk, rfl, hall, hb⟩ := hrel
      have HA := Lib.hid hall
      clear hall
      by_cases hlt : k < l.length
      · obtain ⟨b, o, rfl, hbl, c0, c1, c2⟩ := Sl.at3 (hR.below hb) hlt
        have HX := Lib.hid (List.getElem?_eq_getElem hlt)
        have hsz := hf.2 l[k] (by simp)
        generalize l[k] = x at *
        have hb1 := hb.alloc hb.size (.cells #[.string x.1, .int .i64 x.2.1, .bool x.2.2] 46)
        cases hq : wriB x
        · have HN := Lib.hid (show wrsB most l = false by
            rw [Bool.eq_false_iff]; intro h
            have := (wrsB_iff.1 h).2.1 x (List.mem_of_getElem? HX.out)
            rw [hq] at this; cases this)
          go_wp2_with (go_at_call 89; refine (wriOk_any x _ hsz).mono ?_; rintro e w' ⟨rfl, hb2⟩; rw [hq])
          go_ret
          exact ⟨ret_bool HN.out.symm, bthen hb1 hb2⟩
        · go_wp2_with (go_at_call 89; refine (wriOk_any x _ hsz).mono ?_; rintro e w' ⟨rfl, hb2⟩; rw [hq])
          go_roundw
          case rel => exact ⟨k + 1, by omega, by go_num, fun j y hj hy => by
            by_cases hjk : j < k
            · exact HA.out j y hjk hy
            · obtain rfl : j = k := by omega
              rw [HX.out] at hy; injection hy with hy; subst hy; exact hq, bthen hb1 hb2⟩
          case measure => simp [intOf]; omega
      · obtain rfl : k = l.length := by omega
        have HQ := Lib.hid (show wrsB most l = asc l by
          rw [Bool.eq_iff_iff, wrsB_iff]
          exact ⟨fun h => h.2.2, fun h => ⟨hm, fun x hx => by
            obtain ⟨j, hj⟩ := List.getElem?_of_mem hx
            exact HA.out j x (List.getElem?_eq_some_iff.1 hj).1 hj, h⟩⟩)
        go_wp2_with (go_at_call 90; refine (ascending_any A l c _ hn (hR.below hb)).mono ?_; rintro e w' ⟨rfl, hb2⟩)
        go_ret
        exact ⟨ret_bool HQ.out.symm, bthen hb hb2⟩
  · have d0 : decide ((most : Int) < (l.length : Int)) = true := decide_eq_true (by omega)
    have HN := Lib.hid (show wrsB most l = false by
      rw [Bool.eq_false_iff]; intro h; exact hm (wrsB_iff.1 h).1)
    go_enter Try.func52, Try.ntmps52
    go_wp2
    go_ret
    exact ⟨ret_bool HN.out.symm, Below.refl _ _⟩
theorem implWritesOk_any (A : Option Addr) (l : List Wri) (c : Nat) (w : World) (hf : FitsW l) (hn : l.length ≤ 1048576) (hR : Sl encWri 3 w A l) :
    Calls Try.prog 19 #[.slice A l.length c] w fun e w' => e = .returned (.bool (wrsB 6 l)) ∧ Below w.heap.size w w' := by
  go_enter Try.func19, Try.ntmps19
  go_wp2_with (go_at_call 52; refine (upTo_any A l c 6 _ hf hn hR).mono ?_; rintro e w' ⟨rfl, hb⟩)
  go_ret
  exact ⟨rfl, hb⟩
end Go.Proofs.Ytpjkcmmmpgncmaa
