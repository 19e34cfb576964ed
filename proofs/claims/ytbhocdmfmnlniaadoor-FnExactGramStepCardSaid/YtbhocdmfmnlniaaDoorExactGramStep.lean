/- FnExactGramStep: for every state and letter the program's GramStep returns what the reference's returns. No condition; the listed variables are tied to the program's text. -/
import Derived.Test.YtbhocdmfmnlniaaDoorGrmI
import Derived.Test.YtbhocdmfmnlniaaDoorLetSz
import Derived.Test.YtbhocdmfmnlniaaDoorOpenL
import Derived.Test.YtbhocdmfmnlniaaDoorDoorG
import Derived.Test.YtbhocdmfmnlniaaDoorCards
import Derived.Test.YtbhocdmfmnlniaaDoorTie
import Derived.SevenTiedAt
namespace Go.Proofs.YtbhocdmfmnlniaaDoor
open Go.ChangeShapes Go.WideShapes Go.ChangeAt Go.RowKit
set_option maxHeartbeats 2000000 in
theorem lawGramStep (st : Int) (x : Let) (w : World) (h1 : x.1.size ≤ maxLen) (h2 : x.2.size ≤ maxLen) (hV : Env w) :
    Calls Tryd.prog 3 #[.int .i64 st, .agg #[.string x.1, .string x.2]] w fun e w' => e = .returned (.bool true) ∧ Below w.heap.size w w' := by
  obtain ⟨x1, x2⟩ := x
  simp only at h1 h2 ⊢
  have hb0 := (Below.refl w.heap.size w).alloc (Nat.le_refl _) (.cells #[.string x1, .string x2] 23)
  have HX := Lib.hid (Blk.new w 23 #[.string x1, .string x2])
  have HV := Lib.hid (hV.below hb0)
  by_cases hsz : ((x1.size + x2.size : Nat) : Int) ≤ 1048576
  · have HZ := Lib.hid (sz_yes hsz)
    have hd : decide ((1048576 : Int) - ((x1.size : Int) + (x2.size : Int)) < 0) = false := decide_eq_false (by omega)
    have hx2 : x2.size ≤ 1048576 := by omega
    have hx3 : x2.size ≤ 1073741824 := by omega
    clear hsz hV
    go_enter Tryd.func3, Tryd.ntmps3
    go_wp2_with fail
    refine (szLetter_any (x1, x2) _ _ h1 h2 (by omega) (by omega)).mono ?_
    rintro e w1 ⟨rfl, hb1⟩
    have hX1 := HX.out.kept hb1
    have y0 := hX1.at_ (i := 0) (by simp)
    have y1 := hX1.at_ (i := 1) (by simp)
    have HV1 := Lib.hid (HV.out.below hb1)
    have hb01 := hb0.trans (hb1.mono (by simp))
    simp only
    rw [HZ.out]
    go_wp2_with fail
    refine (toLetter_any (x1, x2) _).mono ?_
    rintro e w2 ⟨rfl, hb2⟩
    go_wp2_with fail
    refine (specStep_any st (x1, x2) _ h1 hx2).mono ?_
    rintro e w3 ⟨rfl, hb3⟩
    have hX3 := (hX1.kept hb2).kept hb3
    clear y0 y1
    have y0 := hX3.at_ (i := 0) (by simp)
    have y1 := hX3.at_ (i := 1) (by simp)
    have HV3 := Lib.hid ((HV1.out.below hb2).below hb3)
    have hb03 := (hb01.trans (hb2.mono hb01.size)).trans (hb3.mono (Nat.le_trans hb01.size hb2.size))
    generalize hgg : stepG st (x1, x2) = g at *
    have HG := Lib.hid hgg
    clear hgg
    go_wp2_with fail
    refine (toLetter_any (x1, x2) _).mono ?_
    rintro e w4 ⟨rfl, hb4⟩
    go_wp2_with fail
    refine (implStep_any st (x1, x2) _ h1 hx3 (HV3.out.below hb4)).mono ?_
    rintro e w5 ⟨rfl, hb5⟩
    have hb05 := (hb03.trans (hb4.mono hb03.size)).trans (hb5.mono (Nat.le_trans hb03.size hb4.size))
    rw [HG.out]
    go_wp2
    go_ret
    exact ⟨rfl, hb05⟩
  · have HZ := Lib.hid (sz_no (t := x1.size + x2.size) (a := 1048576) (by omega))
    go_enter Tryd.func3, Tryd.ntmps3
    go_wp2_with fail
    refine (szLetter_any (x1, x2) _ _ h1 h2 (by omega) (by omega)).mono ?_
    rintro e w1 ⟨rfl, hb1⟩
    have hb01 := hb0.trans (hb1.mono (by simp))
    simp only
    rw [HZ.out]
    go_wp2
    go_ret
    exact ⟨rfl, hb01⟩
set_option maxRecDepth 100000 in
theorem fnExactGramStep_lifted (os : Os) (started : os.Started) (H : Type) (enc : TypeId × Value → H) :
    ReturnsInHanded {} Tryd.checked os 3 .any (fun w args => (Rows.fnExactGramStepSpec.pre enc Tryd.prog Tryd.f3 [] false w args ∧ laidMetH Tryd.prog laidG w) ∧ sizedMet enc Tryd.prog Tryd.f3 (OpenSpec.ofChange Rows.fnExactGramStepSpec) false w args)
      (Rows.fnExactGramStepSpec.post enc Tryd.prog Tryd.f3 false true false false) := by
  refine returnsInHanded_of_change_and (C := Tryd.checked) (X := fun w _ => laidMetH Tryd.prog laidG w) (fun _ _ _ hh h => h.of_heap hh) own0 started (by kernel_rfl) Tryd.func3
    (ChangeSpec.witness_shaped (enc := enc) (C := Tryd.checked) (os := os) (X := fun w _ => laidMetH Tryd.prog laidG w) false (World.doorLaid Tryd.prog 2000 os) #[.int .i64 0, .agg #[.string ⟨#[]⟩, .string ⟨#[]⟩]] 8 rfl (World.shaped_of_RefB (by kernel_rfl) (by kernel_rfl)) (by kernel_rfl) (by kernel_rfl) (by kernel_rfl) (door_met os _)) ?_
  intro W base args ds gs before hval0 hW _ _ hL _
  have hval : ∀ (j : Nat) t v, Tryd.f3.params[j]? = some t → args[j]? = some v → Value.okWide Tryd.prog W .any base t v := hval0
  have hW' := hW
  obtain ⟨p, q, hA0, hV, rfl, hfz, hnd⟩ := hW
  have hA : DataW.TrodAll enc Tryd.prog W 0 (fun _ => true) true Tryd.f3.params.toList args.toList ds p := hA0
  rw [Tryd.params3] at hA hval
  obtain ⟨v0, vs0, d0, ds0, p0, q0, hargs, rfl, rfl, h0, r0⟩ := trodAll_cons hA
  obtain ⟨v1, vs1, d1, ds1, p1, q1, rfl, rfl, rfl, h1, r1⟩ := trodAll_cons r0
  obtain ⟨rfl, rfl, rfl⟩ := trodAll_nil r1
  obtain rfl : args = #[v0, v1] := by cases args; simp_all
  have hV1 : DataW.TrodVars enc Tryd.prog W (fun _ => true) ["loop.example/engrosser/impl.codeWords"] gs q := hV
  obtain ⟨g1, rfl⟩ : ∃ g1, gs = [g1] := by
    match gs, hV1 with
    | [g1], _ => exact ⟨g1, rfl⟩
    | [], h => exact h.elim
    | g1 :: g2 :: r, h => obtain ⟨_, _, _, _, _, _, _, _, _, _, hs, _⟩ := h; exact hs.elim
  have hE := env_of hL
  have k0 := h0
  have lt0 : ∀ x ∈ p0, x.block < W.heap.size := by obtain ⟨m, hm⟩ := k0; exact DataW.trod_lt m _ _ _ hm
  obtain ⟨n0, rfl, rfl, rfl, hn0⟩ := open_int Tryd.underlying3 (hval 0 3 v0 rfl rfl) h0
  have k1 := h1
  have lt1 : ∀ x ∈ p1, x.block < W.heap.size := by obtain ⟨m, hm⟩ := k1; exact DataW.trod_lt m _ _ _ hm
  obtain ⟨x1, rfl, hx1, hy1⟩ := open_letter (hval 1 23 v1 rfl rfl) h1
  clear hA0 hval0
  refine (lawGramStep n0 x1 W hx1 hy1 hE).mono fun e W' ⟨he, bel⟩ => ?_
  subst he
  exact ⟨_, rfl, _, _, _, [], _, _, hW', trodAll_mk1 (shut_bool Tryd.underlying4 _), (trodAll_cons_mk (Below.trod laidOut0 (by kernel_rfl) (of_decide_eq_true (by kernel_rfl)) k0 bel lt0) (trodAll_cons_mk (Below.trod laidOut0 (by kernel_rfl) (of_decide_eq_true (by kernel_rfl)) k1 bel lt1) trodAll_mk0)), Below.trodVars laidOut0 bel varsOk hV1, bel.frame _, fun h => by cases h⟩

theorem fnExactGramStep_row : Rows.FnExactGramStepSaid :=
  OpenClaim.holds_of_wide 3 Tryd.f3 rfl rfl rfl rfl rfl rfl rfl ⟨rfl, rfl, rfl, rfl, rfl⟩ rfl rfl rfl rfl rfl (by kernel_rfl) Tryd.func3 (by kernel_rfl)
    (of_decide_eq_true (by kernel_rfl)) (by unfold Func.isWrapper; first | (rw [if_pos (by decide +kernel)]; kernel_rfl) | (rw [if_neg (by decide +kernel)]; exact ⟨rfl, rfl⟩))
    (fun os started H enc _ => fnExactGramStep_lifted os started H enc)
theorem fnExactGramStep_card : Rows.FnExactGramStepCardSaid :=
  Claim7.holds_tied_plain_at .later [] [.data, .data, .data, .sentinel, .sentinel, .data] true (true, "d41239489344c0662bd34a237d90e799fcf921db20ec0e31199bd6abe4c1385e") true
    fnExactGramStep_row (fun _ h => by cases h) (by kernel_rfl) (fun _ h => by cases h) fnExactGramStep_row_tie rfl ⟨rfl, rfl⟩ (by kernel_rfl) rfl
    (fun f fn hf hfn => by
      obtain rfl : f = 3 := Option.some.inj ((show Tryd.prog.funcNamed "loop.example/engrosser/laws.FnExactGramStep" = some 3 by kernel_rfl).symm.trans hf) |>.symm
      obtain rfl : fn = Tryd.f3 := (Option.some.inj (Tryd.func3.symm.trans hfn)).symm
      exact ⟨by kernel_rfl, fun j t ht => by
        rw [Tryd.params3] at ht
        have h3 : t = 3 ∨ t = 23 := by
          match j, ht with
          | 0, ht => simp at ht; simp [ht]
          | 1, ht => simp at ht; simp [ht]
          | j + 2, ht => simp at ht
        rcases h3 with rfl | rfl
        · exact (show Tryd.prog.wantsStandIn 3 = false by kernel_rfl)
        · exact (show Tryd.prog.wantsStandIn 23 = false by kernel_rfl)⟩)
    (by kernel_rfl)
#print axioms fnExactGramStep_card
end Go.Proofs.YtbhocdmfmnlniaaDoor
