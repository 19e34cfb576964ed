/- FnExactGramMany: for every list of letters the program's GramMany returns what the reference's returns, and the list reads afterwards as before. No condition. -/
import Derived.Test.YtmmfehkopcfhbaaGramMany
import Derived.OpenShut
import Derived.ShutString
import Derived.ChangeOld
namespace Go.Proofs.Ytmmfehkopcfhbaa
open Go.RowKit Go.ChangeShapes Go.WideShapes Go.ChangeAt Go.Deep
open Go.ChangeMaps (open_string)
set_option maxHeartbeats 800000 in
theorem lawGramMany (A : Option Addr) (l : List Let) (c : Nat) (w : World) (hf : FitsL l) (hR : Sl encLet 2 w A l) :
    Calls Try.prog 3 #[.slice A l.length c] w fun e w' => e = .returned (.bool true) ∧ Below w.heap.size w w' := by
  have hf0 := hf.1
  by_cases hsz : ((l.length + lsz l : Nat) : Int) ≤ 1048576
  · have hz := sz_yes hsz
    have hlen : l.length ≤ 1048576 := by omega
    have HZ := Lib.hid hz
    clear hz
    go_enter Try.func3, Try.ntmps3
    go_wp2_with fail
    refine (szLetterS_any A l c _ _ hf hR (by omega) (by omega)).mono ?_
    rintro e w1 ⟨rfl, hb1⟩
    rw [HZ.out]
    go_wp2_with fail
    refine (toLetterS_any A l c _ hlen (hR.below hb1)).mono ?_
    rintro e w2 ⟨v, rfl, ho2, hb2⟩
    obtain ⟨A2, c2, rfl, hl2, hm2, hR2⟩ := Sl.of_own encLet_len ho2
    go_wp2_with fail
    refine (specGramMany_any A2 l c2 _ hlen hR2).mono ?_
    rintro e w3 ⟨rfl, hb3⟩
    go_wp2_with fail
    have hb13 := bthen (bthen hb1 hb2) hb3
    refine (toLetterS_any A l c _ hlen (hR.below hb13)).mono ?_
    rintro e w4 ⟨v, rfl, ho4, hb4⟩
    obtain ⟨A4, c4, rfl, hl4, hm4, hR4⟩ := Sl.of_own encLet_len ho4
    go_wp2_with fail
    refine (implGramMany_any A4 l c4 _ hlen hf hR4).mono ?_
    rintro e w5 ⟨rfl, hb5⟩
    go_wp2_with fail
    have hb15 := bthen (bthen hb13 hb4) hb5
    refine (toLetterS_any A l c _ hlen (hR.below hb15)).mono ?_
    rintro e w6 ⟨v, rfl, ho6, hb6⟩
    obtain ⟨A6, c6, rfl, hl6, hm6, hR6⟩ := Sl.of_own encLet_len ho6
    go_wp2_with fail
    refine (eqLetterS_any A4 A6 l l c4 c6 _ hf0 hf0 ((hR4.below hb5).below hb6) hR6).mono ?_
    rintro e w7 ⟨rfl, hb7⟩
    rw [eqB_yes rfl]
    have hb17 := bthen (bthen hb15 hb6) hb7
    go_wp2
    go_ret
    exact ⟨rfl, hb17⟩
  · have HZ := Lib.hid (sz_no (t := l.length + lsz l) (a := 1048576) (by omega))
    go_enter Try.func3, Try.ntmps3
    go_wp2_with fail
    refine (szLetterS_any A l c _ _ hf hR (by omega) (by omega)).mono ?_
    rintro e w1 ⟨rfl, hb1⟩
    rw [HZ.out]
    go_wp2
    go_ret
    exact ⟨rfl, hb1⟩

/-- An argument that is a list of letters. -/
theorem open_letters {H : Type} {enc : TypeId × Value → H} {w : World} {base base2 : Nat} {spare : Nat → Bool} {held : Bool} {v : Value} {d : DataW H} {p : List MemPlace}
    (hval : Value.okWide Try.prog w .any base 22 v) (h : DataW.Trod enc Try.prog w base2 spare held 22 v d p) :
    ∃ A l c, v = .slice A (l : List Let).length c ∧ FitsL l ∧ Sl encLet 2 w A l := by
  obtain ⟨fuel, hf⟩ := h
  obtain ⟨a0, len, cap, rfl⟩ := okWide_slice Try.underlying22 hval
  rcases open_slice_fields Try.underlying22 Try.underlying43 (by kernel_rfl) (by kernel_rfl) hf with ⟨hcs, hx⟩ | ⟨a, len', cap', m, D, Pl, hcs, hb, hl, hm, hmm, hx, hi⟩
  · simp [Value.cells] at hcs
    obtain ⟨rfl, rfl, rfl⟩ := hcs
    exact ⟨none, [], 0, rfl, ⟨by simp, by simp⟩, Sl.nil _ _ _ _⟩
  · simp [Value.cells] at hcs
    obtain ⟨rfl, rfl, rfl⟩ := hcs
    have hlm : len ≤ m := by rw [hmm]; split <;> omega
    obtain ⟨l, hll, hg, hS⟩ := Sl.of_cells (enc := encLet) (k := 2) (n := len) (w := w) (a := a) (Good := fun x : Let => x.1.size ≤ maxLen ∧ x.2.size ≤ maxLen) (by omega) encLet_len (fun i hil => by
      obtain ⟨ys, n, _, _, _, hf⟩ := hi i (by omega)
      obtain ⟨v0, y0, hc0, _, ht0⟩ := hf 0 _ rfl
      obtain ⟨v1, y1, hc1, _, ht1⟩ := hf 1 _ rfl
      obtain ⟨s0, e0, _, hs0⟩ := DataW.trod_string Try.underlying9 ht0
      obtain ⟨s1, e1, _, hs1⟩ := DataW.trod_string Try.underlying9 ht1
      simp at e0 e1
      subst e0 e1
      exact ⟨(s0, s1), ⟨hs0, hs1⟩, fun j hj => by
        match j, hj with
        | 0, _ => exact hc0
        | 1, _ => exact hc1⟩)
    subst hll
    exact ⟨some a, l, cap, rfl, ⟨by omega, hg⟩, hS⟩

theorem own0 : ownKnob Try.prog.godebug = none := by kernel_rfl
theorem laidOut0 : laidOutB Try.prog = true := by kernel_rfl
set_option maxRecDepth 100000 in
theorem exactGramMany_lifted (os : Os) (started : os.Started) (H : Type) (enc : TypeId × Value → H) :
    ReturnsInHanded {} Try.checked os 3 .any (Rows.fnExactGramManySpec.pre6 enc Try.prog Try.f3 Rows.fnExactGramManyRow.domain false) (Rows.fnExactGramManySpec.post enc Try.prog Try.f3 false true false false) := by
  refine returnsInHanded_of_change (C := Try.checked) own0 started (by kernel_rfl) Try.func3
    (ChangeSpec.witness6 (enc := enc) (C := Try.checked) false ⟨#[], #[.slice none 0 0], []⟩ 8 (by kernel_rfl) (by kernel_rfl) (by kernel_rfl) (by kernel_rfl)) ?_
  intro W base args ds gs before hval0 hW hcnd _
  have hval : ∀ (j : Nat) t v, Try.f3.params[j]? = some t → args[j]? = some v → Value.okWide Try.prog W .any base t v := hval0
  have hW' := hW
  obtain ⟨p, q, hA0, hV, rfl, hfz, hnd⟩ := hW
  have hA : DataW.TrodAll enc Try.prog W 0 (fun _ => true) true Try.f3.params.toList args.toList ds p := hA0
  rw [Try.params3] at hA hval
  obtain ⟨v0, vs0, d0, ds0, p0, q0, hargs, rfl, rfl, h0, r0⟩ := trodAll_cons hA
  obtain ⟨rfl, rfl, rfl⟩ := trodAll_nil r0
  obtain rfl : args = #[v0] := by cases args; simp_all
  obtain ⟨rfl, rfl⟩ := trodVars_none hV
  have k0 := h0
  have lt0 : ∀ x ∈ p0, x.block < W.heap.size := by obtain ⟨m, hm⟩ := k0; exact DataW.trod_lt m _ _ _ hm
  obtain ⟨A, l, c, rfl, hf, hR⟩ := open_letters (hval 0 22 v0 rfl rfl) h0
  clear hA0 hval0
  refine (lawGramMany A l c W hf hR).mono fun e W' ⟨he, bel⟩ => ?_
  subst he
  exact ⟨_, rfl, _, _, _, [], _, [], hW', trodAll_mk1 (shut_bool Try.underlying4 _), (trodAll_cons_mk (Below.trod laidOut0 (by kernel_rfl) (of_decide_eq_true (by kernel_rfl)) k0 bel lt0) trodAll_mk0), rfl, bel.frame _, fun h => by cases h⟩

theorem exactGramMany_holds : Rows.FnExactGramManySaid :=
  OpenClaim.holds_of_wide 3 Try.f3 rfl rfl rfl rfl rfl rfl rfl ⟨rfl, rfl, rfl, rfl, rfl⟩ rfl rfl rfl rfl rfl (by kernel_rfl) Try.func3 (by kernel_rfl)
    (of_decide_eq_true (by kernel_rfl)) (by unfold Func.isWrapper; first | (rw [if_pos (by decide +kernel)]; kernel_rfl) | (rw [if_neg (by decide +kernel)]; exact ⟨rfl, rfl⟩))
    (fun os started H enc _ => exactGramMany_lifted os started H enc)
#print axioms exactGramMany_holds
end Go.Proofs.Ytmmfehkopcfhbaa
