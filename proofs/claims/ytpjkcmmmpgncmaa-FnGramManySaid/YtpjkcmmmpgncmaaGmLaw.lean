import Derived.BigQuiet
import Derived.OpenShut
import Derived.ShutString
import Derived.ChangeOld
import Derived.Test.YtpjkcmmmpgncmaaL9I
import Derived.Test.YtpjkcmmmpgncmaaM02
import Derived.Test.YtpjkcmmmpgncmaaM01
/- FnGramMany: what is counted of letters that one may be told is what the reference counts; and of two parts it is the sum. For all codes. No condition. -/
namespace Go.Proofs.Ytpjkcmmmpgncmaa
open Go.RowKit Go.ChangeShapes Go.WideShapes Go.ChangeAt Go.Deep
theorem cnt3 (L : List Let) : cntS [67] L + cntS [69] L + cntS [90] L ≤ L.length := by
  induction L with
  | nil => simp [cntS]
  | cons x l ih =>
    unfold cntS at *
    simp only [List.countP_cons, List.length_cons]
    by_cases h1 : (x.1.toList == [67]) = true
    · rw [if_pos h1, beq_other h1 (show [67] ≠ [69] by decide), beq_other h1 (show [67] ≠ [90] by decide)]; simp; omega
    · by_cases h2 : (x.1.toList == [69]) = true
      · rw [if_neg h1, if_pos h2, beq_other h2 (show [69] ≠ [90] by decide)]; simp; omega
      · rw [if_neg h1, if_neg h2]
        split <;> omega
theorem cnt_two (s : List UInt8) (L : List Let) (n : Nat) : cntS s (L.take n) + cntS s (L.drop n) = cntS s L := by
  unfold cntS
  conv => rhs; rw [← List.take_append_drop n L]
  rw [List.countP_append]
theorem Sl.dropL {w : World} {b o n : Nat} {l : List Let} (h : Sl encLet 2 w (some ⟨b, o, none⟩) l) : Sl encLet 2 w (some ⟨b, o + n * 2, none⟩) (l.drop n) := by
  intro hl
  rw [List.length_drop] at hl
  obtain ⟨b', o', e, hb, hc⟩ := h (by omega)
  injection e with e; injection e with e1 e2 _
  subst e1; subst e2
  refine ⟨b, o + n * 2, rfl, hb, fun i j x hx hj => ?_⟩
  rw [List.getElem?_drop] at hx
  have := hc (n + i) j x hx hj
  rw [show o + n * 2 + i * 2 + j = o + (n + i) * 2 + j by omega]
  exact this
theorem FitsL.sub {l m : List Let} (h : FitsL l) (hs : ∀ x ∈ m, x ∈ l) (hl : m.length ≤ l.length) : FitsL m := ⟨Nat.le_trans hl h.1, fun x hx => h.2 x (hs x hx)⟩
set_option maxRecDepth 100000 in
set_option maxHeartbeats 4000000 in
theorem drawGM_any (A : Option Addr) (bs : List UInt8) (c : Nat) (w : World) (hn : bs.length ≤ 1048576) (hc : bs.length ≤ c) (hm : c ≤ maxLen) (hS : Sl encU 1 w A bs) :
    Calls Try.prog 21 #[.slice A bs.length c] w fun e w' => ∃ (A' : Option Addr) (L : List Let) (c' : Nat), e = .returned (.slice A' L.length c') ∧ LN w' A' L 2000 ∧ L.length ≤ c' ∧ c' ≤ maxLen ∧ Below w.heap.size w w' := by
  go_enter Try.func21, Try.ntmps21
  go_wp2_with fail
  refine (open_any A bs c w hn hc hm hS).mono ?_
  rintro e w1 ⟨bs', c', g, rfl, hR1, hb1⟩
  go_wp2_with fail
  refine (l9List_any w A bs' c' g 0 w1 hR1 (by omega)).mono ?_
  rintro e w2 ⟨A4, L, c4, q, rfl, hLN, hc4, hm4, _, hR2, _⟩
  have HL := Lib.hid hLN
  have hbe := hR2.2.1
  clear hLN hR1 hR2
  go_wp2
  go_ret
  exact ⟨A4, L, c4, rfl, HL.out, hc4, hm4, hbe⟩
set_option maxRecDepth 100000 in
set_option maxHeartbeats 12000000 in
theorem lawGramManyD (A : Option Addr) (bs : List UInt8) (c : Nat) (w : World) (hc : bs.length ≤ c) (hm : c ≤ maxLen) (hS : Sl encU 1 w A bs) :
    Calls Try.prog 5 #[.slice A bs.length c] w fun e w' => e = .returned (.bool true) ∧ Below w.heap.size w w' := by
  go_enter Try.func5, Try.ntmps5
  by_cases hbig : 1048576 < bs.length
  · have d0 : decide ((1048576 : Int) < (bs.length : Int)) = true := decide_eq_true (by omega)
    go_wp2
    go_ret
    exact ⟨rfl, Below.refl _ _⟩
  have d0 : decide ((1048576 : Int) < (bs.length : Int)) = false := decide_eq_false (by omega)
  have HD := Lib.hid (drawGM_any A bs c w (by omega) hc hm hS)
  clear hS hbig
  go_wp2_with fail
  refine HD.out.mono ?_
  rintro e w1 ⟨A4, L, c4, rfl, hLN, hc4, hm4, hb1⟩
  have hl : L.length ≤ 2000 := hLN.2.2
  have HF := Lib.hid (show FitsL L from ⟨by unfold maxLen; omega, fun x hx => ⟨Nat.le_trans (hLN.2.1 x hx).1 (by decide), Nat.le_trans (hLN.2.1 x hx).2 (by decide)⟩⟩)
  have HN := Lib.hid hLN
  clear HD hLN d0
  go_wp2_with fail
  refine (implGramMany_any A4 L c4 _ (by omega) HF.out HN.out.1.sl).mono ?_
  rintro e w2 ⟨rfl, hb2⟩
  go_wp2_with fail
  refine (specGramMany_any A4 L c4 _ (by omega) (HN.out.1.sl.below hb2)).mono ?_
  rintro e w3 ⟨rfl, hb3⟩
  have hb13 := bthen hb2 hb3
  have hb03 := bthen hb1 hb13
  have HC := Lib.hid (cnt3 L)
  have k1 := cntS_le [67] L
  have k2 := cntS_le [69] L
  have k3 := cntS_le [90] L
  have HS3 := Lib.hid (HN.out.1.sl.below hb13)
  by_cases hL : L.length = 0
  · obtain rfl := List.eq_nil_of_length_eq_zero hL
    clear hb2 hb3 hb13 hb1 k1 k2 k3
    go_wp2_with fail
    refine (implGramMany_any _ [] _ _ (by simp) HF.out (Sl.nil _ _ _ _)).mono ?_
    rintro e w4 ⟨rfl, hb4⟩
    go_wp2_with fail
    refine (implGramMany_any _ [] _ _ (by simp) HF.out (Sl.nil _ _ _ _)).mono ?_
    rintro e w5 ⟨rfl, hb5⟩
    have hbe := bthen (bthen hb03 hb4) hb5
    have z1 : cntS [67] ([] : List Let) = 0 := rfl
    have z2 : cntS [69] ([] : List Let) = 0 := rfl
    have z3 : cntS [90] ([] : List Let) = 0 := rfl
    rw [z1, z2, z3]
    go_wp2
    go_ret
    exact ⟨rfl, hbe⟩
  · obtain ⟨b, o, hAe, hbl, _⟩ := HS3.out (by omega)
    subst hAe
    have hT : (L.take (L.length / 2)).length = L.length / 2 := by rw [List.length_take]; omega
    have hD : (L.drop (L.length / 2)).length = L.length - L.length / 2 := List.length_drop
    have HC1 := fun W (hW : Below w3.heap.size w3 W) => implGramMany_any (some ⟨b, o, none⟩) (L.take (L.length / 2)) c4 W (by rw [hT]; omega) (FitsL.sub HF.out (fun x hx => List.mem_of_mem_take hx) (by rw [hT]; omega)) ((HS3.out.below hW).take _)
    have HC2 := fun W (hW : Below w3.heap.size w3 W) => implGramMany_any (some ⟨b, o + L.length / 2 * 2, none⟩) (L.drop (L.length / 2)) (c4 - L.length / 2) W (by rw [hD]; omega) (FitsL.sub HF.out (fun x hx => List.mem_of_mem_drop hx) (by rw [hD]; omega)) (Sl.dropL (HS3.out.below hW))
    rw [hT] at HC1
    rw [hD] at HC2
    have HT1 := cnt_two [67] L (L.length / 2)
    have HT2 := cnt_two [69] L (L.length / 2)
    have HT3 := cnt_two [90] L (L.length / 2)
    have HCA := Lib.hid HC1
    have HCB := Lib.hid HC2
    have j4 : L.length / 2 ≤ c4 := by omega
    have j5 : L.length / 2 ≤ L.length := by omega
    have j6 : (L.length : Int) / 2 ≤ (L.length : Int) := by omega
    have j7 : (L.length : Int) / 2 ≤ (c4 : Int) := by omega
    have j8 : (0 : Int) ≤ (L.length : Int) / 2 := by omega
    clear hb2 hb3 hb13 hb1 HC1 HC2
    go_wp2_with fail
    refine (HCA.out _ (Below.refl _ _)).mono ?_
    rintro e w4 ⟨rfl, hb4⟩
    go_wp2_with fail
    refine (HCB.out _ hb4).mono ?_
    rintro e w5 ⟨rfl, hb5⟩
    have hbe := bthen (bthen hb03 hb4) hb5
    have HCC := HC.out
    generalize cntS [67] (L.take (L.length / 2)) = a1 at *
    generalize cntS [69] (L.take (L.length / 2)) = a2 at *
    generalize cntS [90] (L.take (L.length / 2)) = a3 at *
    generalize cntS [67] (L.drop (L.length / 2)) = b1 at *
    generalize cntS [69] (L.drop (L.length / 2)) = b2 at *
    generalize cntS [90] (L.drop (L.length / 2)) = b3 at *
    generalize cntS [67] L = s1 at *
    generalize cntS [69] L = s2 at *
    generalize cntS [90] L = s3 at *
    subst HT1 HT2 HT3
    have hcc : decide ((a1 : Int) + (b1 : Int) + ((a2 : Int) + (b2 : Int)) + ((a3 : Int) + (b3 : Int)) ≤ (L.length : Int)) = true := decide_eq_true (by omega)
    go_wp2
    go_ret
    exact ⟨rfl, hbe⟩
theorem own0 : ownKnob Try.prog.godebug = none := by kernel_rfl
theorem laidOut0 : laidOutB Try.prog = true := by kernel_rfl
set_option maxRecDepth 100000 in
theorem gramMany_lifted (os : Os) (started : os.Started) (H : Type) (enc : TypeId × Value → H) :
    ReturnsInHanded {} Try.checked os 5 .any (Rows.fnGramManySpec.pre6 enc Try.prog Try.f5 Rows.fnGramManyRow.domain false) (Rows.fnGramManySpec.post enc Try.prog Try.f5 false true false false) := by
  refine returnsInHanded_of_change (C := Try.checked) own0 started (by kernel_rfl) Try.func5
    (ChangeSpec.witness6 (enc := enc) (C := Try.checked) false ⟨#[], #[.slice none 0 0], []⟩ 8 (by kernel_rfl) (by kernel_rfl) (by kernel_rfl) (by kernel_rfl)) ?_
  intro W base args ds gs before hval0 hW hcnd _
  have hval : ∀ (j : Nat) t v, Try.f5.params[j]? = some t → args[j]? = some v → Value.okWide Try.prog W .any base t v := hval0
  have hW' := hW
  obtain ⟨p, q, hA0, hV, rfl, hfz, hnd⟩ := hW
  have hA : DataW.TrodAll enc Try.prog W 0 (fun _ => true) true Try.f5.params.toList args.toList ds p := hA0
  rw [Try.params5] at hA hval
  obtain ⟨v0, vs0, d0, ds0, p0, q0, hargs, rfl, rfl, h0, r0⟩ := trodAll_cons hA
  obtain ⟨rfl, rfl, rfl⟩ := trodAll_nil r0
  obtain rfl : args = #[v0] := by cases args; simp_all
  obtain ⟨rfl, rfl⟩ := trodVars_none hV
  have k0 := h0
  have lt0 : ∀ x ∈ p0, x.block < W.heap.size := by obtain ⟨m, hm⟩ := k0; exact DataW.trod_lt m _ _ _ hm
  obtain ⟨A0, bs0, c0, rfl, hb0, hR0⟩ := open_bytes (hval 0 38 v0 rfl rfl) h0
  clear hA0 hval0
  refine (lawGramManyD A0 bs0 c0 W hb0.1 hb0.2 hR0).mono fun e W' ⟨he, bel⟩ => ?_
  subst he
  exact ⟨_, rfl, _, _, _, [], _, [], hW', trodAll_mk1 (shut_bool Try.underlying4 _), (trodAll_cons_mk (Below.trod laidOut0 (by kernel_rfl) (of_decide_eq_true (by kernel_rfl)) k0 bel lt0) trodAll_mk0), rfl, bel.frame _, fun h => by cases h⟩
theorem gramMany_holds : Rows.FnGramManySaid :=
  OpenClaim.holds_of_wide 5 Try.f5 rfl rfl rfl rfl rfl rfl rfl ⟨rfl, rfl, rfl, rfl, rfl⟩ rfl rfl rfl rfl rfl (by kernel_rfl) Try.func5 (by kernel_rfl)
    (of_decide_eq_true (by kernel_rfl)) (by unfold Func.isWrapper; first | (rw [if_pos (by decide +kernel)]; kernel_rfl) | (rw [if_neg (by decide +kernel)]; exact ⟨rfl, rfl⟩))
    (fun os started H enc _ => gramMany_lifted os started H enc)
#print axioms gramMany_holds
end Go.Proofs.Ytpjkcmmmpgncmaa
