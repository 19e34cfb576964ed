/- FnExactLetterTake: for every string the program's LetterTake returns what the reference's returns. No condition; the one listed variable is tied to the program's text. -/
import Derived.Test.YtannpeedfakhkaaDoorLtrH
import Derived.Test.YtannpeedfakhkaaDoorLetEq
import Derived.Test.YtannpeedfakhkaaDoorDoor
import Derived.Test.YtannpeedfakhkaaDoorCards
import Derived.Test.YtannpeedfakhkaaDoorTie
import Derived.SevenTiedAt
namespace Go.Proofs.YtannpeedfakhkaaDoor
open Go.ChangeShapes Go.WideShapes Go.ChangeAt Go.RowKit
set_option maxHeartbeats 800000 in
theorem lawTake (s : ByteArray) (a : Addr) (w : World) (hs : s.size ≤ maxLen) (h0 : 0 < w.heap.size) (hE : w.cell? ⟨0, 0, none⟩ = some (.iface 93 (.pointer (some a)))) :
    Calls Tryd.prog 3 #[.string s] w fun e w' => e = .returned (.bool true) ∧ Below w.heap.size w w' := by
  unfold maxLen at hs
  by_cases hz : s.size ≤ 1048576
  · have hz' : decide (1048576 < (s.size : Int)) = false := by simp; omega
    go_enter Tryd.func3, Tryd.ntmps3
    go_wp2_with fail
    refine (specTake_any s w (by omega)).mono ?_
    rintro e w1 ⟨rfl, hb1⟩
    have hE1 := (hb1.cell (p := ⟨0, 0, none⟩) h0).trans hE
    have hs1 := hb1.size
    generalize hl : takeL s = l at *
    have HL := Lib.hid hl
    clear hl
    go_wp2_with fail
    refine (implTake_any s a _ (by omega) (by simp) (by rw [World.cell?_alloc_lt _ _ _ (by simp; omega)]; exact hE1)).mono ?_
    rintro e w2 ⟨rfl, hb2⟩
    rw [HL.out]
    have hb02 := ((hb1.alloc hs1 _).trans (hb2.mono (by simp; omega)))
    have hB1 := (Blk.new w1 23 #[.string l.1, .string l.2]).below hb2 (by simp)
    have c0 : w2.cell? ⟨w1.heap.size, 0, none⟩ = some (.string l.1) := hB1.cell 0
    have c1 : w2.cell? ⟨w1.heap.size, 1, none⟩ = some (.string l.2) := hB1.cell 1
    have hlt := hB1.lt
    go_wp2_with fail
    refine (eqLetter_any l l _).mono ?_
    rintro e w3 ⟨rfl, hb3⟩
    rw [eqB_yes rfl]
    have hb03 := (hb02.alloc (Nat.le_trans hs1 (by omega)) _).trans (hb3.mono (by simp; omega))
    go_wp2
    go_ret
    exact ⟨rfl, hb03⟩
  · have hz' : decide (1048576 < (s.size : Int)) = true := by simp; omega
    go_enter Tryd.func3, Tryd.ntmps3
    go_wp2
    go_ret
    exact ⟨rfl, Below.refl _ _⟩
set_option maxRecDepth 100000 in
theorem fnExactLetterTake_lifted (os : Os) (started : os.Started) (H : Type) (enc : TypeId × Value → H) :
    ReturnsInHanded {} Tryd.checked os 3 .any (fun w args => (Rows.fnExactLetterTakeSpec.pre enc Tryd.prog Tryd.f3 [] false w args ∧ laidMetH Tryd.prog laidE w) ∧ sizedMet enc Tryd.prog Tryd.f3 (OpenSpec.ofChange Rows.fnExactLetterTakeSpec) false w args)
      (Rows.fnExactLetterTakeSpec.post enc Tryd.prog Tryd.f3 false true false false) := by
  refine returnsInHanded_of_change_and (C := Tryd.checked) (X := fun w _ => laidMetH Tryd.prog laidE w) (fun _ _ _ hh h => h.of_heap hh) own0 started (by kernel_rfl) Tryd.func3
    (ChangeSpec.witness_shaped (enc := enc) (C := Tryd.checked) (os := os) (X := fun w _ => laidMetH Tryd.prog laidE w) false (World.doorLaid Tryd.prog 400 os) #[.string ⟨#[]⟩] 8 rfl (World.shaped_of_RefB (by kernel_rfl) (by kernel_rfl)) (by kernel_rfl) (by kernel_rfl) (by kernel_rfl) (door_met os _)) ?_
  intro W base args ds gs before hval0 hW _ _ hL _
  have hval : ∀ (j : Nat) t v, Tryd.f3.params[j]? = some t → args[j]? = some v → Value.okWide Tryd.prog W .any base t v := hval0
  have hW' := hW
  obtain ⟨p, q, hA0, hV, rfl, hfz, hnd⟩ := hW
  have hA : DataW.TrodAll enc Tryd.prog W 0 (fun _ => true) true Tryd.f3.params.toList args.toList ds p := hA0
  rw [Tryd.params3] at hA hval
  obtain ⟨v0, vs0, d0, ds0, p0, q0, hargs, rfl, rfl, h0, r0⟩ := trodAll_cons hA
  obtain ⟨rfl, rfl, rfl⟩ := trodAll_nil r0
  obtain rfl : args = #[v0] := by cases args; simp_all
  have hV1 : DataW.TrodVars enc Tryd.prog W (fun _ => true) ["loop.example/engrosser/impl.errMalformed"] gs q := hV
  obtain ⟨g1, rfl⟩ : ∃ g1, gs = [g1] := by
    match gs, hV1 with
    | [g1], _ => exact ⟨g1, rfl⟩
    | [], h => exact h.elim
    | g1 :: g2 :: r, h => obtain ⟨_, _, _, _, _, _, _, _, _, _, hs, _⟩ := h; exact hs.elim
  obtain ⟨a, hE, h0W⟩ := err_cell hL
  have k0 := h0
  have lt0 : ∀ x ∈ p0, x.block < W.heap.size := by obtain ⟨m, hm⟩ := k0; exact DataW.trod_lt m _ _ _ hm
  obtain ⟨s0, rfl, rfl, rfl, hs0⟩ := Go.ChangeMaps.open_string Tryd.underlying9 (hval 0 9 v0 rfl rfl) h0
  clear hA0 hval0
  refine (lawTake s0 a W hs0 h0W hE).mono fun e W' ⟨he, bel⟩ => ?_
  subst he
  exact ⟨_, rfl, _, _, _, [], _, _, hW', trodAll_mk1 (shut_bool Tryd.underlying4 _), (trodAll_cons_mk (Below.trod laidOut0 (by kernel_rfl) (of_decide_eq_true (by kernel_rfl)) k0 bel lt0) trodAll_mk0), Below.trodVars laidOut0 bel varsOk hV1, bel.frame _, fun h => by cases h⟩

theorem fnExactLetterTake_row : Rows.FnExactLetterTakeSaid :=
  OpenClaim.holds_of_wide 3 Tryd.f3 rfl rfl rfl rfl rfl rfl rfl ⟨rfl, rfl, rfl, rfl, rfl⟩ rfl rfl rfl rfl rfl (by kernel_rfl) Tryd.func3 (by kernel_rfl)
    (of_decide_eq_true (by kernel_rfl)) (by unfold Func.isWrapper; first | (rw [if_pos (by decide +kernel)]; kernel_rfl) | (rw [if_neg (by decide +kernel)]; exact ⟨rfl, rfl⟩))
    (fun os started H enc _ => fnExactLetterTake_lifted os started H enc)
theorem fnExactLetterTake_card : Rows.FnExactLetterTakeCardSaid :=
  Claim7.holds_tied_plain_at .later [] [.sentinel] true (true, "33431eb0f6bdfef61febccd31b5f655e64539fed7a117a58ed79ed3a3ffa2508") true
    fnExactLetterTake_row (fun _ h => by cases h) (by kernel_rfl) (fun _ h => by cases h) fnExactLetterTake_row_tie rfl ⟨rfl, rfl⟩ (by kernel_rfl) rfl
    (fun f fn hf hfn => by
      obtain rfl : f = 3 := Option.some.inj ((show Tryd.prog.funcNamed "loop.example/engrosser/laws.FnExactLetterTake" = some 3 by kernel_rfl).symm.trans hf) |>.symm
      obtain rfl : fn = Tryd.f3 := (Option.some.inj (Tryd.func3.symm.trans hfn)).symm
      exact ⟨by kernel_rfl, fun j t ht => by
        rw [Tryd.params3] at ht
        have h3 : t = 9 := by
          match j, ht with
          | 0, ht => simp at ht; simp [ht]
          | j + 1, ht => simp at ht
        subst h3
        exact (show Tryd.prog.wantsStandIn 9 = false by kernel_rfl)⟩)
    (by kernel_rfl)
#print axioms fnExactLetterTake_card
end Go.Proofs.YtannpeedfakhkaaDoor
