/- FnPastNone: where there is no history there are no rows. For all codes. No condition. -/
import Derived.Test.YteanjfjlmpgnnaaWpW
import Derived.Test.YteanjfjlmpgnnaaPastD
namespace Go.Proofs.Yteanjfjlmpgnnaa
open Go.RowKit Go.ChangeShapes Go.WideShapes Go.ChangeAt Go.Deep
set_option maxRecDepth 100000 in
set_option maxHeartbeats 6000000 in
theorem lawPastNone (A : Option Addr) (bs : List UInt8) (c : Nat) (w : World) (hc : bs.length ≤ c) (hm : c ≤ maxLen) (hS : Sl encU 1 w A bs) :
    Calls Try.prog 7 #[.slice A bs.length c] w fun e w' => e = .returned (.bool true) ∧ Below w.heap.size w w' := by
  go_enter Try.func7, Try.ntmps7
  by_cases hbig : 1048576 < bs.length
  · have d0 : decide ((1048576 : Int) < (bs.length : Int)) = true := decide_eq_true (by omega)
    go_wp2
    go_ret
    exact ⟨rfl, Below.refl _ _⟩
  have d0 : decide ((1048576 : Int) < (bs.length : Int)) = false := decide_eq_false (by omega)
  have HD := Lib.hid (drawPastAt_any A bs c w (by omega) hc hm hS)
  clear hS hbig
  go_wp2_with fail
  refine HD.out.mono ?_
  rintro e w1 ⟨now, t, l, v, rfl, ho, hf, hl, hn0, hn1, hb1⟩
  obtain ⟨A2, c2, rfl, _, _, hS2⟩ := ho.sl
  have hbn := (Below.refl w1.heap.size w1).alloc (Nat.le_refl _) (.cells #[.int .i64 now, .slice A2 l.length c2] 32)
  have HI0 := Lib.hid (show PN w w1.heap.size now A2 l c2 none [] 0 (w1.alloc (.cells #[.int .i64 now, .slice A2 l.length c2] 32)) from ⟨Blk.new w1 32 _, hS2.below hbn, fun h => absurd h (by simp), bthen hb1 hbn⟩)
  have HF := Lib.hid hf
  have HLEN := Lib.hid (pastN_len now l t)
  generalize hpl : pastL now l t = ws at *
  have HP := Lib.hid hpl
  have hwl : ws.length ≤ 122 := by have := HLEN.out; omega
  have HC := Lib.hid (implPastAt_any A2 l c2 now t (w1.alloc (.cells #[.int .i64 now, .slice A2 l.length c2] 32)) hf (by omega) HI0.out.2.1)
  rw [HP.out] at HC
  have r0 : (w1.alloc (.cells #[.int .i64 now, .slice A2 l.length c2] 32)).cell? ⟨w1.heap.size, 0, none⟩ = some (.int .i64 now) := HI0.out.1.cell 0
  have r1 : (w1.alloc (.cells #[.int .i64 now, .slice A2 l.length c2] 32)).cell? ⟨w1.heap.size, 1, none⟩ = some (.slice A2 l.length c2) := HI0.out.1.cell 1
  clear hbn hb1 ho hS2 hf HD d0 hpl HLEN
  go_wp2_with fail
  generalize w1.alloc (.cells #[.int .i64 now, .slice A2 l.length c2] 32) = w2 at *
  generalize w1.heap.size = g3 at *
  refine HC.out.mono ?_
  rintro e w3 ⟨v3, rfl, ho3, hb3⟩
  obtain ⟨A5, c5, rfl, _, _, hS5⟩ := ho3.sl
  have HI := Lib.hid (show PN w g3 now A2 l c2 A5 ws c5 w3 from ⟨HI0.out.1.kept hb3, HI0.out.2.1.below hb3, hS5, bthen HI0.out.2.2.2 hb3⟩)
  clear HC ho3 hb3 hS5 HI0 r0 r1
  have HC := Lib.hid (specPastAt_any A2 l c2 now t w3 HF.out (by omega) HI.out.2.1)
  rw [HP.out] at HC
  have r0 : w3.cell? ⟨g3, 0, none⟩ = some (.int .i64 now) := HI.out.1.cell 0
  have r1 : w3.cell? ⟨g3, 1, none⟩ = some (.slice A2 l.length c2) := HI.out.1.cell 1
  go_wp2_with fail
  refine HC.out.mono ?_
  rintro e w4 ⟨v4, rfl, ho4, hb4⟩
  obtain ⟨A6, c6, rfl, _, _, hS6⟩ := ho4.sl
  have HI2 := Lib.hid (HI.out.below hb4)
  have HC2 := Lib.hid (wpWrites_same A5 A6 ws c5 c6 w4 (by omega) HI2.out.2.2.1 hS6)
  clear HC ho4 hb4 hS6 HI r0 r1
  go_wp2_with fail
  refine HC2.out.mono ?_
  rintro e w5 ⟨rfl, hb5⟩
  have HI := Lib.hid (HI2.out.below hb5)
  clear HC2 HI2 hb5
  have HC := Lib.hid (implPastFold_any none [] 0 w5 ⟨Nat.zero_le _, fun r h => absurd h (by simp)⟩ (by simp) (by simp) ⟨fun h => absurd h (by simp), fun r h => absurd h (by simp)⟩)
  rw [show goF 0 [] (cont []) = (((0 : Int), ([] : List Ver)), true) from goF_nil _ _] at HC
  go_wp2_with fail
  refine HC.out.mono ?_
  rintro e w6 ⟨v6, rfl, ho6, hb6⟩
  obtain ⟨A7, c7, rfl, _, _, hS7⟩ := ho6.sl
  have hbn := (Below.refl w6.heap.size w6).alloc (Nat.le_refl _) (.cells #[.int .i64 0, .slice A7 0 c7] 32)
  have HB7 := Lib.hid (Blk.new w6 32 #[.int .i64 0, .slice A7 0 c7])
  have HI2 := Lib.hid (HI.out.below (bthen hb6 hbn))
  have q0 : (w6.alloc (.cells #[.int .i64 0, .slice A7 0 c7] 32)).cell? ⟨w6.heap.size, 0, none⟩ = some (.int .i64 0) := HB7.out.cell 0
  have q1 : (w6.alloc (.cells #[.int .i64 0, .slice A7 0 c7] 32)).cell? ⟨w6.heap.size, 1, none⟩ = some (.slice A7 0 c7) := HB7.out.cell 1
  have r0 : (w6.alloc (.cells #[.int .i64 0, .slice A7 0 c7] 32)).cell? ⟨g3, 0, none⟩ = some (.int .i64 now) := HI2.out.1.cell 0
  have r1 : (w6.alloc (.cells #[.int .i64 0, .slice A7 0 c7] 32)).cell? ⟨g3, 1, none⟩ = some (.slice A2 l.length c2) := HI2.out.1.cell 1
  have HC2 := Lib.hid (specVersOk_any A2 l c2 now (w6.alloc (.cells #[.int .i64 0, .slice A7 0 c7] 32)) HF.out (by omega) HI2.out.2.1)
  clear HC ho6 hb6 hS7 HI hbn HB7
  go_wp2_with fail
  refine HC2.out.mono ?_
  rintro e w8 ⟨rfl, hb8⟩
  have HI := Lib.hid (HI2.out.below hb8)
  have r0 : w8.cell? ⟨g3, 0, none⟩ = some (.int .i64 now) := HI.out.1.cell 0
  have hbe := HI.out.2.2.2
  clear q0 q1 HC2 HI2 hb8
  by_cases hyes : versB now l = true ∧ 1 ≤ t ∧ t ≤ now
  · obtain ⟨h1, h2, h3⟩ := hyes
    rw [h1]
    have d1 : decide ((1 : Int) ≤ t) = true := decide_eq_true h2
    have d2 : decide (t ≤ now) = true := decide_eq_true h3
    go_wp2
    go_ret
    exact ⟨rfl, hbe⟩
  · have hw0 : ws.length = 0 := by rw [← HP.out]; unfold pastL; rw [if_neg hyes]; rfl
    obtain rfl : ws = [] := List.length_eq_zero_iff.1 hw0
    clear hw0 hwl
    cases hv : versB now l
    · go_wp2
      go_ret
      exact ⟨rfl, hbe⟩
    · by_cases h1 : 1 ≤ t
      · have d1 : decide ((1 : Int) ≤ t) = true := decide_eq_true h1
        have d2 : decide (t ≤ now) = false := decide_eq_false (fun h => hyes ⟨hv, h1, h⟩)
        go_wp2
        go_ret
        exact ⟨rfl, hbe⟩
      · have d1 : decide ((1 : Int) ≤ t) = false := decide_eq_false h1
        go_wp2
        go_ret
        exact ⟨rfl, hbe⟩
theorem own0 : ownKnob Try.prog.godebug = none := by kernel_rfl
theorem laidOut0 : laidOutB Try.prog = true := by kernel_rfl
set_option maxRecDepth 100000 in
theorem pastNone_lifted (os : Os) (started : os.Started) (H : Type) (enc : TypeId × Value → H) :
    ReturnsInHanded {} Try.checked os 7 .any (Rows.fnPastNoneSpec.pre6 enc Try.prog Try.f7 Rows.fnPastNoneRow.domain false) (Rows.fnPastNoneSpec.post enc Try.prog Try.f7 false true false false) := by
  refine returnsInHanded_of_change (C := Try.checked) own0 started (by kernel_rfl) Try.func7
    (ChangeSpec.witness6 (enc := enc) (C := Try.checked) false ⟨#[], #[.slice none 0 0], []⟩ 8 (by kernel_rfl) (by kernel_rfl) (by kernel_rfl) (by kernel_rfl)) ?_
  intro W base args ds gs before hval0 hW hcnd _
  have hval : ∀ (j : Nat) t v, Try.f7.params[j]? = some t → args[j]? = some v → Value.okWide Try.prog W .any base t v := hval0
  have hW' := hW
  obtain ⟨p, q, hA0, hV, rfl, hfz, hnd⟩ := hW
  have hA : DataW.TrodAll enc Try.prog W 0 (fun _ => true) true Try.f7.params.toList args.toList ds p := hA0
  rw [Try.params7] at hA hval
  obtain ⟨v0, vs0, d0, ds0, p0, q0, hargs, rfl, rfl, h0, r0⟩ := trodAll_cons hA
  obtain ⟨rfl, rfl, rfl⟩ := trodAll_nil r0
  obtain rfl : args = #[v0] := by cases args; simp_all
  obtain ⟨rfl, rfl⟩ := trodVars_none hV
  have k0 := h0
  have lt0 : ∀ x ∈ p0, x.block < W.heap.size := by obtain ⟨m, hm⟩ := k0; exact DataW.trod_lt m _ _ _ hm
  obtain ⟨A0, bs0, c0, rfl, hb0, hR0⟩ := open_bytes (hval 0 38 v0 rfl rfl) h0
  clear hA0 hval0
  refine (lawPastNone A0 bs0 c0 W hb0.1 hb0.2 hR0).mono fun e W' ⟨he, bel⟩ => ?_
  subst he
  exact ⟨_, rfl, _, _, _, [], _, [], hW', trodAll_mk1 (shut_bool Try.underlying4 _), (trodAll_cons_mk (Below.trod laidOut0 (by kernel_rfl) (of_decide_eq_true (by kernel_rfl)) k0 bel lt0) trodAll_mk0), rfl, bel.frame _, fun h => by cases h⟩
theorem pastNone_holds : Rows.FnPastNoneSaid :=
  OpenClaim.holds_of_wide 7 Try.f7 rfl rfl rfl rfl rfl rfl rfl ⟨rfl, rfl, rfl, rfl, rfl⟩ rfl rfl rfl rfl rfl (by kernel_rfl) Try.func7 (by kernel_rfl)
    (of_decide_eq_true (by kernel_rfl)) (by unfold Func.isWrapper; first | (rw [if_pos (by decide +kernel)]; kernel_rfl) | (rw [if_neg (by decide +kernel)]; exact ⟨rfl, rfl⟩))
    (fun os started H enc _ => pastNone_lifted os started H enc)
#print axioms pastNone_holds
end Go.Proofs.Yteanjfjlmpgnnaa
