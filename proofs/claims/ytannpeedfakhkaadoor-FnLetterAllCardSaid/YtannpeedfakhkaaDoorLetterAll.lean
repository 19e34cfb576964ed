/- FnLetterAll: the letters that are taken have just the bytes ahead of what is left; program and reference agree at every drawn string. -/
import Derived.Test.YtannpeedfakhkaaDoorLtrY
import Derived.Test.YtannpeedfakhkaaDoorCards
import Derived.Test.YtannpeedfakhkaaDoorTie
import Derived.SevenTiedAt
namespace Go.Proofs.YtannpeedfakhkaaDoor
open Go.ChangeShapes Go.WideShapes Go.ChangeAt Go.RowKit
set_option maxRecDepth 100000 in
set_option maxHeartbeats 1000000 in
theorem lawPart (A : Option Addr) (bs : List UInt8) (c : Nat) (hbc : bs.length ≤ c ∧ c ≤ maxLen) (a : Addr) (w : World) (hS : Sl encU 1 w A bs) (h0 : 0 < w.heap.size) (hE : w.cell? ⟨0, 0, none⟩ = some (.iface 93 (.pointer (some a)))) :
    Calls Tryd.prog 11 #[.slice A bs.length c] w fun e w' => e = .returned (.bool true) ∧ Below w.heap.size w w' := by
  have hmx : maxLen = 9223372036854775807 := by unfold maxLen; rfl
  by_cases hz : bs.length ≤ 1048576
  · have hz' : decide (1048576 < (bs.length : Int)) = false := by simp; omega
    have HD := Lib.hid (drawAll_any A bs c w hz hbc.1 hbc.2 hS)
    have hbl : bs.length ≤ 9223372036854775807 := by omega
    clear hS hbc
    go_enter Tryd.func11, Tryd.ntmps11
    go_wp2_with fail
    refine HD.out.mono ?_
    rintro e w1 ⟨s, rfl, hs, hb1⟩
    have hE1 := cell0 h0 hE hb1
    have hs1 := hb1.size
    have HIM := Lib.hid (all_impl s a w1 (by omega) (by omega) hE1)
    have HSP := Lib.hid (fun w0 : World => all_spec s w0 (by omega))
    have hL := AL_le s
    have HFit := Lib.hid (ok_fit (AL_ok s))
    by_cases h4 : s.size ≤ 400
    · have h4' : decide (400 < (s.size : Int)) = false := by simp; omega
      obtain ⟨q1, q2, q3⟩ := AL_eq h4
      have hend := all_end s
      have htx : txtS (AL s) ++ AR s = s := by rw [txtS_ok (AL_ok s), q1, q2]; exact all_tx s
      have hRs := allR_le s
      rw [← q2, ← q3] at hend
      rw [← q2] at hRs
      clear q1 q2 q3
      generalize AL s = L at *
      generalize AR s = R at *
      generalize AC s = C at *
      have HTX := Lib.hid htx
      have HEnd := Lib.hid hend
      clear htx hend
      go_wp2_with fail
      refine HIM.out.mono ?_
      rintro e w2 ⟨v2, rfl, ho2, hb2⟩
      obtain ⟨A2, c2, rfl, hl2, hm2, hR2⟩ := Sl.of_own encLet_len ho2
      have hs2 := hb2.size
      clear ho2
      go_wp2_with fail
      refine (HSP.out _).mono ?_
      rintro e w3 ⟨v3, rfl, ho3, hb3⟩
      obtain ⟨A3, c3, rfl, hl3, hm3, hR3⟩ := Sl.of_own encLet_len ho3
      have hs3 := hb3.size
      have hR23 := hR2.below hb3
      clear ho3
      go_wp2_with fail
      refine (wp_same A2 A3 L c2 c3 w3 (by omega) hR23 hR3).mono ?_
      rintro e w4 ⟨rfl, hb4⟩
      have hs4 := hb4.size
      have hR24 := hR23.below hb4
      clear hR2 hR3 hR23
      go_wp2_with fail
      refine (implTexts_any A2 L c2 w4 (by omega) hR24 HFit.out).mono ?_
      rintro e w5 ⟨rfl, hb5⟩
      have hb15 := (((hb1.trans (hb2.mono (by omega))).trans (hb3.mono (by omega))).trans (hb4.mono (by omega))).trans (hb5.mono (by omega))
      generalize txtS L = T at *
      have hT : T.size ≤ s.size := by have := congrArg ByteArray.size HTX.out; rw [ByteArray.size_append] at this; omega
      have hcat : ¬ (9223372036854775807 < T.size + R.size) := by omega
      have ht : (T ++ R).toList = s.toList := by rw [HTX.out]
      rcases HEnd.out with ⟨rfl, rfl⟩ | ⟨hC, hR, _⟩
      · go_wp2
        go_ret
        exact ⟨ret_bool (by simp), hb15⟩
      · have hC' : ((C : Int) == 0) = false := by simpa using hC
        have hC2 : ¬ C = 0 := hC
        go_wp2
        go_ret
        exact ⟨ret_bool (nonempty_of hR), hb15⟩
    · have h4' : decide (400 < (s.size : Int)) = true := by simp; omega
      obtain ⟨q1, q2, q3⟩ := AL_over h4
      rw [q1, q2, q3] at HIM HSP
      clear q1 q2 q3 HFit hL
      go_wp2_with fail
      refine HIM.out.mono ?_
      rintro e w2 ⟨v2, rfl, ho2, hb2⟩
      obtain ⟨A2, c2, rfl, hl2, hm2, hR2⟩ := Sl.of_own (l := []) encLet_len ho2
      have hs2 := hb2.size
      clear ho2
      go_wp2_with fail
      refine (HSP.out _).mono ?_
      rintro e w3 ⟨v3, rfl, ho3, hb3⟩
      obtain ⟨A3, c3, rfl, hl3, hm3, hR3⟩ := Sl.of_own (l := []) encLet_len ho3
      have hs3 := hb3.size
      have hR23 := hR2.below hb3
      clear ho3
      go_wp2_with fail
      refine (wp_same A2 A3 [] c2 c3 w3 (by simp) hR23 hR3).mono ?_
      rintro e w4 ⟨rfl, hb4⟩
      have hb14 := ((hb1.trans (hb2.mono (by omega))).trans (hb3.mono (by omega))).trans (hb4.mono (by omega))
      go_wp2
      go_ret
      exact ⟨rfl, hb14⟩
  · have hz' : decide (1048576 < (bs.length : Int)) = true := by simp; omega
    go_enter Tryd.func11, Tryd.ntmps11
    go_wp2
    go_ret
    exact ⟨rfl, Below.refl _ _⟩
set_option maxRecDepth 100000 in
theorem fnLetterAll_lifted (os : Os) (started : os.Started) (H : Type) (enc : TypeId × Value → H) :
    ReturnsInHanded {} Tryd.checked os 11 .any (fun w args => (Rows.fnLetterAllSpec.pre enc Tryd.prog Tryd.f11 [] false w args ∧ laidMetH Tryd.prog laidE w) ∧ sizedMet enc Tryd.prog Tryd.f11 (OpenSpec.ofChange Rows.fnLetterAllSpec) false w args)
      (Rows.fnLetterAllSpec.post enc Tryd.prog Tryd.f11 false true false false) := by
  refine returnsInHanded_of_change_and (C := Tryd.checked) (X := fun w _ => laidMetH Tryd.prog laidE w) (fun _ _ _ hh h => h.of_heap hh) own0 started (by kernel_rfl) Tryd.func11
    (ChangeSpec.witness_shaped (enc := enc) (C := Tryd.checked) (os := os) (X := fun w _ => laidMetH Tryd.prog laidE w) false (World.doorLaid Tryd.prog 400 os) #[.slice none 0 0] 8 rfl (World.shaped_of_RefB (by kernel_rfl) (by kernel_rfl)) (by kernel_rfl) (by kernel_rfl) (by kernel_rfl) (door_met os _)) ?_
  intro W base args ds gs before hval0 hW _ _ hL _
  have hval : ∀ (j : Nat) t v, Tryd.f11.params[j]? = some t → args[j]? = some v → Value.okWide Tryd.prog W .any base t v := hval0
  have hW' := hW
  obtain ⟨p, q, hA0, hV, rfl, hfz, hnd⟩ := hW
  have hA : DataW.TrodAll enc Tryd.prog W 0 (fun _ => true) true Tryd.f11.params.toList args.toList ds p := hA0
  rw [Tryd.params11] at hA hval
  obtain ⟨v0, vs0, d0, ds0, p0, q0, hargs, rfl, rfl, h0, r0⟩ := trodAll_cons hA
  obtain ⟨rfl, rfl, rfl⟩ := trodAll_nil r0
  obtain rfl : args = #[v0] := by cases args; simp_all
  have hV1 : DataW.TrodVars enc Tryd.prog W (fun _ => true) ["loop.example/engrosser/impl.errMalformed"] gs q := hV
  obtain ⟨g1, rfl⟩ : ∃ g1, gs = [g1] := by
    match gs, hV1 with
    | [g1], _ => exact ⟨g1, rfl⟩
    | [], h => exact h.elim
    | g1 :: g2 :: r, h => obtain ⟨_, _, _, _, _, _, _, _, _, _, hs, _⟩ := h; exact hs.elim
  obtain ⟨a, hE, h0W⟩ := err_cell hL
  have k0 := h0
  have lt0 : ∀ x ∈ p0, x.block < W.heap.size := by obtain ⟨m, hm⟩ := k0; exact DataW.trod_lt m _ _ _ hm
  obtain ⟨A0, bs0, c0, rfl, hb0, hR0⟩ := open_bytes (hval 0 33 v0 rfl rfl) h0
  clear hA0 hval0
  refine (lawPart A0 bs0 c0 hb0 a W hR0 h0W hE).mono fun e W' ⟨he, bel⟩ => ?_
  subst he
  exact ⟨_, rfl, _, _, _, [], _, _, hW', trodAll_mk1 (shut_bool Tryd.underlying4 _), (trodAll_cons_mk (Below.trod laidOut0 (by kernel_rfl) (of_decide_eq_true (by kernel_rfl)) k0 bel lt0) trodAll_mk0), Below.trodVars laidOut0 bel varsOk hV1, bel.frame _, fun h => by cases h⟩

theorem fnLetterAll_row : Rows.FnLetterAllSaid :=
  OpenClaim.holds_of_wide 11 Tryd.f11 rfl rfl rfl rfl rfl rfl rfl ⟨rfl, rfl, rfl, rfl, rfl⟩ rfl rfl rfl rfl rfl (by kernel_rfl) Tryd.func11 (by kernel_rfl)
    (of_decide_eq_true (by kernel_rfl)) (by unfold Func.isWrapper; first | (rw [if_pos (by decide +kernel)]; kernel_rfl) | (rw [if_neg (by decide +kernel)]; exact ⟨rfl, rfl⟩))
    (fun os started H enc _ => fnLetterAll_lifted os started H enc)
theorem fnLetterAll_card : Rows.FnLetterAllCardSaid :=
  Claim7.holds_tied_plain_at .later [] [.sentinel] true (true, "33431eb0f6bdfef61febccd31b5f655e64539fed7a117a58ed79ed3a3ffa2508") true
    fnLetterAll_row (fun _ h => by cases h) (by kernel_rfl) (fun _ h => by cases h) fnLetterAll_row_tie rfl ⟨rfl, rfl⟩ (by kernel_rfl) rfl
    (fun f fn hf hfn => by
      obtain rfl : f = 11 := Option.some.inj ((show Tryd.prog.funcNamed "loop.example/engrosser/laws.FnLetterAll" = some 11 by kernel_rfl).symm.trans hf) |>.symm
      obtain rfl : fn = Tryd.f11 := (Option.some.inj (Tryd.func11.symm.trans hfn)).symm
      exact ⟨by kernel_rfl, fun j t ht => by
        rw [Tryd.params11] at ht
        have h3 : t = 33 := by
          match j, ht with
          | 0, ht => simp at ht; simp [ht]
          | j + 1, ht => simp at ht
        subst h3
        exact (show Tryd.prog.wantsStandIn 33 = false by kernel_rfl)⟩)
    (by kernel_rfl)
#print axioms fnLetterAll_card
end Go.Proofs.YtannpeedfakhkaaDoor
