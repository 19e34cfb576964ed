/- FnExactGramAll: for every list of letters the program's GramAll returns what the reference's returns, and the list reads afterwards as before. No condition; the listed variables are tied to the program's text. -/
import Derived.Test.YtbhocdmfmnlniaaDoorGrmI
import Derived.Test.YtbhocdmfmnlniaaDoorLetSz
import Derived.Test.YtbhocdmfmnlniaaDoorLetEq
import Derived.Test.YtbhocdmfmnlniaaDoorOpenL
import Derived.Test.YtbhocdmfmnlniaaDoorDoorG
import Derived.Test.YtbhocdmfmnlniaaDoorCards
import Derived.Test.YtbhocdmfmnlniaaDoorTie
import Derived.SevenTiedAt
namespace Go.Proofs.YtbhocdmfmnlniaaDoor
open Go.ChangeShapes Go.WideShapes Go.ChangeAt Go.RowKit
theorem small_of {l : List Let} (h : l.length + lsz l ≤ 1048576) : SmallL l := by
  refine ⟨by omega, fun x hx => ?_⟩
  have : x.1.size + x.2.size ≤ lsz l := by
    unfold lsz
    have hm : x.1.size + x.2.size ∈ l.map (fun x => x.1.size + x.2.size) := List.mem_map.2 ⟨x, hx, rfl⟩
    have hs : ∀ (r : List Nat) (y : Nat), y ∈ r → y ≤ r.sum := fun r y hy => by
      induction r with
      | nil => cases hy
      | cons z r ih =>
        rw [List.sum_cons]
        rcases List.mem_cons.1 hy with rfl | hy
        · omega
        · have := ih hy; omega
    exact hs _ _ hm
  omega
set_option maxHeartbeats 800000 in
theorem lawGramAll (A : Option Addr) (l : List Let) (c : Nat) (w : World) (hf : FitsL l) (hR : Sl encLet 2 w A l) (hV : Env w) :
    Calls Tryd.prog 4 #[.slice A l.length c] w fun e w' => e = .returned (.bool true) ∧ Below w.heap.size w w' := by
  have hf0 := hf.1
  by_cases hsz : ((l.length + lsz l : Nat) : Int) ≤ 1048576
  · have hz := sz_yes hsz
    have hsm := small_of (l := l) (by omega)
    have hlen : l.length ≤ 1048576 := hsm.1
    have hd : decide ((1048576 : Int) - ((l.length : Int) + (lsz l : Int)) < 0) = false := decide_eq_false (by omega)
    have HZ := Lib.hid hz
    clear hz hsz
    go_enter Tryd.func4, Tryd.ntmps4
    go_wp2_with fail
    refine (szLetterS_any A l c _ _ hf hR (by omega) (by omega)).mono ?_
    rintro e w1 ⟨rfl, hb1⟩
    rw [HZ.out]
    go_wp2_with fail
    refine (toLetterS_any A l c _ hlen (hR.below hb1)).mono ?_
    rintro e w2 ⟨v, rfl, ho2, hb2⟩
    obtain ⟨A2, c2, rfl, hl2, hm2, hR2⟩ := Sl.of_own encLet_len ho2
    go_wp2_with fail
    refine (specGramAll_any A2 l c2 _ hsm hR2).mono ?_
    rintro e w3 ⟨rfl, hb3⟩
    generalize hgg : gramL l = g at *
    have HG := Lib.hid hgg
    clear hgg
    go_wp2_with fail
    have hb13 := bthen (bthen hb1 hb2) hb3
    refine (toLetterS_any A l c _ hlen (hR.below hb13)).mono ?_
    rintro e w4 ⟨v, rfl, ho4, hb4⟩
    obtain ⟨A4, c4, rfl, hl4, hm4, hR4⟩ := Sl.of_own encLet_len ho4
    go_wp2_with fail
    refine (implGramAll_any A4 l c4 _ hsm hR4 ((hV.below hb13).below hb4)).mono ?_
    rintro e w5 ⟨rfl, hb5⟩
    rw [HG.out]
    go_wp2_with fail
    have hb15 := bthen (bthen hb13 hb4) hb5
    refine (toLetterS_any A l c _ hlen (hR.below hb15)).mono ?_
    rintro e w6 ⟨v, rfl, ho6, hb6⟩
    obtain ⟨A6, c6, rfl, hl6, hm6, hR6⟩ := Sl.of_own encLet_len ho6
    go_wp2_with fail
    refine (eqLetterS_any A4 A6 l l c4 c6 _ hf0 hf0 ((hR4.below hb5).below hb6) hR6).mono ?_
    rintro e w7 ⟨rfl, hb7⟩
    rw [eqB_yes rfl]
    have hb17 := bthen (bthen hb15 hb6) hb7
    go_wp2
    go_ret
    exact ⟨rfl, hb17⟩
  · have HZ := Lib.hid (sz_no (t := l.length + lsz l) (a := 1048576) (by omega))
    go_enter Tryd.func4, Tryd.ntmps4
    go_wp2_with fail
    refine (szLetterS_any A l c _ _ hf hR (by omega) (by omega)).mono ?_
    rintro e w1 ⟨rfl, hb1⟩
    rw [HZ.out]
    go_wp2
    go_ret
    exact ⟨rfl, hb1⟩
set_option maxRecDepth 100000 in
theorem fnExactGramAll_lifted (os : Os) (started : os.Started) (H : Type) (enc : TypeId × Value → H) :
    ReturnsInHanded {} Tryd.checked os 4 .any (fun w args => (Rows.fnExactGramAllSpec.pre enc Tryd.prog Tryd.f4 [] false w args ∧ laidMetH Tryd.prog laidG w) ∧ sizedMet enc Tryd.prog Tryd.f4 (OpenSpec.ofChange Rows.fnExactGramAllSpec) false w args)
      (Rows.fnExactGramAllSpec.post enc Tryd.prog Tryd.f4 false true false false) := by
  refine returnsInHanded_of_change_and (C := Tryd.checked) (X := fun w _ => laidMetH Tryd.prog laidG w) (fun _ _ _ hh h => h.of_heap hh) own0 started (by kernel_rfl) Tryd.func4
    (ChangeSpec.witness_shaped (enc := enc) (C := Tryd.checked) (os := os) (X := fun w _ => laidMetH Tryd.prog laidG w) false (World.doorLaid Tryd.prog 2000 os) #[.slice none 0 0] 8 rfl (World.shaped_of_RefB (by kernel_rfl) (by kernel_rfl)) (by kernel_rfl) (by kernel_rfl) (by kernel_rfl) (door_met os _)) ?_
  intro W base args ds gs before hval0 hW _ _ hL _
  have hval : ∀ (j : Nat) t v, Tryd.f4.params[j]? = some t → args[j]? = some v → Value.okWide Tryd.prog W .any base t v := hval0
  have hW' := hW
  obtain ⟨p, q, hA0, hV, rfl, hfz, hnd⟩ := hW
  have hA : DataW.TrodAll enc Tryd.prog W 0 (fun _ => true) true Tryd.f4.params.toList args.toList ds p := hA0
  rw [Tryd.params4] at hA hval
  obtain ⟨v0, vs0, d0, ds0, p0, q0, hargs, rfl, rfl, h0, r0⟩ := trodAll_cons hA
  obtain ⟨rfl, rfl, rfl⟩ := trodAll_nil r0
  obtain rfl : args = #[v0] := by cases args; simp_all
  have hV1 : DataW.TrodVars enc Tryd.prog W (fun _ => true) ["loop.example/engrosser/impl.codeWords"] gs q := hV
  obtain ⟨g1, rfl⟩ : ∃ g1, gs = [g1] := by
    match gs, hV1 with
    | [g1], _ => exact ⟨g1, rfl⟩
    | [], h => exact h.elim
    | g1 :: g2 :: r, h => obtain ⟨_, _, _, _, _, _, _, _, _, _, hs, _⟩ := h; exact hs.elim
  have hE := env_of hL
  have k0 := h0
  have lt0 : ∀ x ∈ p0, x.block < W.heap.size := by obtain ⟨m, hm⟩ := k0; exact DataW.trod_lt m _ _ _ hm
  obtain ⟨A0, l0, c0, rfl, hf0, hR0⟩ := open_letters (hval 0 29 v0 rfl rfl) h0
  clear hA0 hval0
  refine (lawGramAll A0 l0 c0 W hf0 hR0 hE).mono fun e W' ⟨he, bel⟩ => ?_
  subst he
  exact ⟨_, rfl, _, _, _, [], _, _, hW', trodAll_mk1 (shut_bool Tryd.underlying4 _), (trodAll_cons_mk (Below.trod laidOut0 (by kernel_rfl) (of_decide_eq_true (by kernel_rfl)) k0 bel lt0) trodAll_mk0), Below.trodVars laidOut0 bel varsOk hV1, bel.frame _, fun h => by cases h⟩

theorem fnExactGramAll_row : Rows.FnExactGramAllSaid :=
  OpenClaim.holds_of_wide 4 Tryd.f4 rfl rfl rfl rfl rfl rfl rfl ⟨rfl, rfl, rfl, rfl, rfl⟩ rfl rfl rfl rfl rfl (by kernel_rfl) Tryd.func4 (by kernel_rfl)
    (of_decide_eq_true (by kernel_rfl)) (by unfold Func.isWrapper; first | (rw [if_pos (by decide +kernel)]; kernel_rfl) | (rw [if_neg (by decide +kernel)]; exact ⟨rfl, rfl⟩))
    (fun os started H enc _ => fnExactGramAll_lifted os started H enc)
theorem fnExactGramAll_card : Rows.FnExactGramAllCardSaid :=
  Claim7.holds_tied_plain_at .later [] [.data, .data, .data, .sentinel, .sentinel, .data] true (true, "d41239489344c0662bd34a237d90e799fcf921db20ec0e31199bd6abe4c1385e") true
    fnExactGramAll_row (fun _ h => by cases h) (by kernel_rfl) (fun _ h => by cases h) fnExactGramAll_row_tie rfl ⟨rfl, rfl⟩ (by kernel_rfl) rfl
    (fun f fn hf hfn => by
      obtain rfl : f = 4 := Option.some.inj ((show Tryd.prog.funcNamed "loop.example/engrosser/laws.FnExactGramAll" = some 4 by kernel_rfl).symm.trans hf) |>.symm
      obtain rfl : fn = Tryd.f4 := (Option.some.inj (Tryd.func4.symm.trans hfn)).symm
      exact ⟨by kernel_rfl, fun j t ht => by
        rw [Tryd.params4] at ht
        have h3 : t = 29 := by
          match j, ht with
          | 0, ht => simp at ht; simp [ht]
          | j + 1, ht => simp at ht
        subst h3
        exact (show Tryd.prog.wantsStandIn 29 = false by kernel_rfl)⟩)
    (by kernel_rfl)
#print axioms fnExactGramAll_card
end Go.Proofs.YtbhocdmfmnlniaaDoor
