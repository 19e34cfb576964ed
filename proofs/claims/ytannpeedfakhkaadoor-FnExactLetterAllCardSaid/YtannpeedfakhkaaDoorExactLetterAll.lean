/- FnExactLetterAll: for every string the program's LetterAll returns what the reference's returns, in memory of its own. No condition; the one listed variable is tied to the program's text. -/
import Derived.Test.YtannpeedfakhkaaDoorLtrJ
import Derived.Test.YtannpeedfakhkaaDoorLetEq
import Derived.Test.YtannpeedfakhkaaDoorMarkS
import Derived.Test.YtannpeedfakhkaaDoorDoor
import Derived.Test.YtannpeedfakhkaaDoorCards
import Derived.Test.YtannpeedfakhkaaDoorTie
import Derived.SevenTiedAt
namespace Go.Proofs.YtannpeedfakhkaaDoor
open Go.ChangeShapes Go.WideShapes Go.ChangeAt Go.RowKit
def XL (s : ByteArray) : List Let := if s.size ≤ 400 then allL s else []
def XR (s : ByteArray) : ByteArray := if s.size ≤ 400 then allR s else bEmpty
def XC (s : ByteArray) : Nat := if s.size ≤ 400 then allC s else 2
theorem allF_le : ∀ (f : Nat) (s : ByteArray), (allF f s).1.length ≤ f
  | 0, _ => by simp [allF]
  | f + 1, s => by
    have := allF_le f (s.extract (takeN s) s.size)
    rw [allF]; split
    · simp
    · split
      · simp
      · simp; omega
theorem XL_le (s : ByteArray) : (XL s).length ≤ 400 := by
  unfold XL; split
  · have := allF_le s.size s
    unfold allL; omega
  · simp
def PostL (L : List Let) (R : ByteArray) (C : Nat) (w : World) (e : Ending) (w' : World) : Prop :=
  ∃ v, e = .returned (.tuple #[v, .string R, .int .i64 C]) ∧ w'.ownsRow w.heap.size 23 2 v L.length (L.flatMap encLet) ∧ Below w.heap.size w w'
theorem post_X {s : ByteArray} {w w' : World} {e : Ending} (h : allPost2 s w e w') : PostL (XL s) (XR s) (XC s) w e w' := by
  unfold allPost2 at h
  by_cases h4 : s.size ≤ 400
  · rw [if_pos h4] at h
    unfold PostL XL XR XC
    rw [if_pos h4, if_pos h4, if_pos h4]; exact h
  · rw [if_neg h4] at h
    unfold PostL XL XR XC
    rw [if_neg h4, if_neg h4, if_neg h4]; exact h
set_option maxRecDepth 100000 in
theorem markS_none (c k : Nat) (w : World) :
    Calls Tryd.prog 18 #[.slice none 0 c, .int .i64 k] w fun e w' => e = .returned (.int .i64 k) ∧ w' = w := by
  go_enter Tryd.func18, Tryd.ntmps18
  go_wp2
  go_loopw [1, 5] (fun a b wr => a = .int .i64 k ∧ b = .int .i64 0 ∧ wr = w) (fun _ _ _ => 0)
  case atStart => exact ⟨rfl, rfl, rfl⟩
  case round =>
    obtain ⟨rfl, rfl, rfl⟩ := hrel
    go_wp2
    go_ret
    exact ⟨rfl, rfl⟩
theorem markS_any (B : Nat) (A : Option Addr) (c : Nat) (l : List Let) (k : Nat) (w : World) (hk : k + 2 * l.length < 4611686018427387904) (hn : l.length ≤ 1073741824) (hB : B ≤ w.heap.size)
    (hown : w.ownsRow B 23 2 (.slice A l.length c) l.length (l.flatMap encLet)) :
    Calls Tryd.prog 18 #[.slice A l.length c, .int .i64 k] w fun e w' => e = .returned (.int .i64 (k + 2 * l.length : Nat)) ∧ Sl encLet 2 w' A (mkL k l.length) ∧ Below B w w' := by
  rcases Go.Joins.ownsRow_forms hown with ⟨he, h0⟩ | ⟨g, cap, he⟩
  · obtain rfl := List.eq_nil_of_length_eq_zero h0
    simp at he
    obtain ⟨rfl, rfl⟩ := he
    refine (markS_none 0 k w).mono ?_
    rintro e w' ⟨rfl, rfl⟩
    exact ⟨rfl, Sl.nil _ _ _ _, Below.refl _ _⟩
  · simp at he
    obtain ⟨rfl, rfl⟩ := he
    refine (markS_some B g c l k w hk hn hB hown).mono ?_
    rintro e w' ⟨rfl, ho, hb⟩
    have ho' : w'.ownsRow B 23 2 (.slice (some ⟨g, 0, none⟩) (mkL k l.length).length c) (mkL k l.length).length ((mkL k l.length).flatMap encLet) := by rw [mkL_len]; exact ho
    obtain ⟨A, c', hv, _, _, hR⟩ := Sl.of_own encLet_len ho'
    simp at hv
    obtain ⟨rfl, rfl⟩ := hv
    exact ⟨rfl, hR, hb⟩
set_option maxRecDepth 100000 in
set_option maxHeartbeats 1000000 in
theorem lawAll (s : ByteArray) (a : Addr) (w : World) (hs : s.size ≤ maxLen) (h0 : 0 < w.heap.size) (hE : w.cell? ⟨0, 0, none⟩ = some (.iface 93 (.pointer (some a)))) :
    Calls Tryd.prog 4 #[.string s] w fun e w' => e = .returned (.bool true) ∧ Below w.heap.size w w' := by
  unfold maxLen at hs
  by_cases hz : s.size ≤ 1048576
  · have hz' : decide (1048576 < (s.size : Int)) = false := by simp; omega
    have HSp : ∀ w0 : World, Calls Tryd.prog 15 #[.string s] w0 (PostL (XL s) (XR s) (XC s) w0) := fun w0 => (specAll_any s w0 (by omega)).mono fun e w' h => post_X h
    have HIm : ∀ w0 : World, w0.heap.size > 0 → w0.cell? ⟨0, 0, none⟩ = some (.iface 93 (.pointer (some a))) → Calls Tryd.prog 16 #[.string s] w0 (PostL (XL s) (XR s) (XC s) w0) := fun w0 h0 hE => (implAll_any s a w0 (by omega) h0 hE).mono fun e w' h => post_X h
    have hL := XL_le s
    generalize XL s = L at *
    generalize XR s = R at *
    generalize XC s = C at *
    have HSP := Lib.hid HSp
    have HIM := Lib.hid HIm
    clear HSp HIm
    go_enter Tryd.func4, Tryd.ntmps4
    go_wp2_with fail
    refine (HSP.out w).mono ?_
    rintro e w1 ⟨v1, rfl, ho1, hb1⟩
    obtain ⟨A1, c1, rfl, hl1, hm1, hR1⟩ := Sl.of_own encLet_len ho1
    have hE1 := (hb1.cell (p := ⟨0, 0, none⟩) h0).trans hE
    have hs1 := hb1.size
    have h01 : 0 < w1.heap.size := by omega
    clear ho1
    go_wp2_with fail
    refine (HIM.out w1 h01 hE1).mono ?_
    rintro e w2 ⟨v2, rfl, ho2, hb2⟩
    obtain ⟨A2, c2, rfl, hl2, hm2, hR2⟩ := Sl.of_own encLet_len ho2
    have hs2 := hb2.size
    go_wp2_with fail
    refine (eqLetterS_any A2 A1 L L c2 c1 w2 (by unfold maxLen; omega) (by unfold maxLen; omega) hR2 (hR1.mono (Nat.le_refl _) hb2)).mono ?_
    rintro e w3 ⟨rfl, hb3⟩
    rw [eqB_yes rfl]
    have hb13 := bthen hb2 hb3
    have ho3 := own_kept ho2 hb3
    have hs3 := hb3.size
    go_wp2_with fail
    refine (markS_any w1.heap.size A2 c2 L 1 w3 (by omega) (by omega) (by omega) ho3).mono ?_
    rintro e w4 ⟨rfl, hR4, hb4⟩
    have hb14 := hb13.trans hb4
    have hs4 := hb4.size
    go_wp2_with fail
    refine (heldS_any A2 c2 L.length 1 w4 (by omega) (by omega) hR4).mono ?_
    rintro e w5 ⟨rfl, hb5⟩
    have hs5 := hb5.size
    have hb15 := hb14.trans (hb5.mono (by omega))
    have hR5 := hR4.mono (Nat.le_refl _) hb5
    have hE5 := (hb15.cell (p := ⟨0, 0, none⟩) h01).trans hE1
    go_wp2_with fail
    refine (HIM.out w5 (by omega) hE5).mono ?_
    rintro e w6 ⟨v6, rfl, ho6, hb6⟩
    obtain ⟨A6, c6, rfl, hl6, hm6, hR6⟩ := Sl.of_own encLet_len ho6
    have hs6 := hb6.size
    have hb16 := hb15.trans (hb6.mono (by omega))
    go_wp2_with fail
    refine (eqLetterS_any A6 A1 L L c6 c1 w6 (by unfold maxLen; omega) (by unfold maxLen; omega) hR6 (hR1.mono (Nat.le_refl _) hb16)).mono ?_
    rintro e w7 ⟨rfl, hb7⟩
    rw [eqB_yes rfl]
    have hs7 := hb7.size
    have hb17 := hb16.trans (hb7.mono (by omega))
    have hb57 := hb6.trans (hb7.mono (by omega))
    go_wp2_with fail
    refine (heldS_any A2 c2 L.length 1 w7 (by omega) (by omega) (hR5.mono (Nat.le_refl _) hb57)).mono ?_
    rintro e w8 ⟨rfl, hb8⟩
    have hb18 := hb17.trans (hb8.mono (by omega))
    go_wp2
    go_ret
    exact ⟨rfl, hb1.trans (hb18.mono (by omega))⟩
  · have hz' : decide (1048576 < (s.size : Int)) = true := by simp; omega
    go_enter Tryd.func4, Tryd.ntmps4
    go_wp2
    go_ret
    exact ⟨rfl, Below.refl _ _⟩
set_option maxRecDepth 100000 in
theorem fnExactLetterAll_lifted (os : Os) (started : os.Started) (H : Type) (enc : TypeId × Value → H) :
    ReturnsInHanded {} Tryd.checked os 4 .any (fun w args => (Rows.fnExactLetterAllSpec.pre enc Tryd.prog Tryd.f4 [] false w args ∧ laidMetH Tryd.prog laidE w) ∧ sizedMet enc Tryd.prog Tryd.f4 (OpenSpec.ofChange Rows.fnExactLetterAllSpec) false w args)
      (Rows.fnExactLetterAllSpec.post enc Tryd.prog Tryd.f4 false true false false) := by
  refine returnsInHanded_of_change_and (C := Tryd.checked) (X := fun w _ => laidMetH Tryd.prog laidE w) (fun _ _ _ hh h => h.of_heap hh) own0 started (by kernel_rfl) Tryd.func4
    (ChangeSpec.witness_shaped (enc := enc) (C := Tryd.checked) (os := os) (X := fun w _ => laidMetH Tryd.prog laidE w) false (World.doorLaid Tryd.prog 400 os) #[.string ⟨#[]⟩] 8 rfl (World.shaped_of_RefB (by kernel_rfl) (by kernel_rfl)) (by kernel_rfl) (by kernel_rfl) (by kernel_rfl) (door_met os _)) ?_
  intro W base args ds gs before hval0 hW _ _ hL _
  have hval : ∀ (j : Nat) t v, Tryd.f4.params[j]? = some t → args[j]? = some v → Value.okWide Tryd.prog W .any base t v := hval0
  have hW' := hW
  obtain ⟨p, q, hA0, hV, rfl, hfz, hnd⟩ := hW
  have hA : DataW.TrodAll enc Tryd.prog W 0 (fun _ => true) true Tryd.f4.params.toList args.toList ds p := hA0
  rw [Tryd.params4] at hA hval
  obtain ⟨v0, vs0, d0, ds0, p0, q0, hargs, rfl, rfl, h0, r0⟩ := trodAll_cons hA
  obtain ⟨rfl, rfl, rfl⟩ := trodAll_nil r0
  obtain rfl : args = #[v0] := by cases args; simp_all
  have hV1 : DataW.TrodVars enc Tryd.prog W (fun _ => true) ["loop.example/engrosser/impl.errMalformed"] gs q := hV
  obtain ⟨g1, rfl⟩ : ∃ g1, gs = [g1] := by
    match gs, hV1 with
    | [g1], _ => exact ⟨g1, rfl⟩
    | [], h => exact h.elim
    | g1 :: g2 :: r, h => obtain ⟨_, _, _, _, _, _, _, _, _, _, hs, _⟩ := h; exact hs.elim
  obtain ⟨a, hE, h0W⟩ := err_cell hL
  have k0 := h0
  have lt0 : ∀ x ∈ p0, x.block < W.heap.size := by obtain ⟨m, hm⟩ := k0; exact DataW.trod_lt m _ _ _ hm
  obtain ⟨s0, rfl, rfl, rfl, hs0⟩ := Go.ChangeMaps.open_string Tryd.underlying9 (hval 0 9 v0 rfl rfl) h0
  clear hA0 hval0
  refine (lawAll s0 a W hs0 h0W hE).mono fun e W' ⟨he, bel⟩ => ?_
  subst he
  exact ⟨_, rfl, _, _, _, [], _, _, hW', trodAll_mk1 (shut_bool Tryd.underlying4 _), (trodAll_cons_mk (Below.trod laidOut0 (by kernel_rfl) (of_decide_eq_true (by kernel_rfl)) k0 bel lt0) trodAll_mk0), Below.trodVars laidOut0 bel varsOk hV1, bel.frame _, fun h => by cases h⟩

theorem fnExactLetterAll_row : Rows.FnExactLetterAllSaid :=
  OpenClaim.holds_of_wide 4 Tryd.f4 rfl rfl rfl rfl rfl rfl rfl ⟨rfl, rfl, rfl, rfl, rfl⟩ rfl rfl rfl rfl rfl (by kernel_rfl) Tryd.func4 (by kernel_rfl)
    (of_decide_eq_true (by kernel_rfl)) (by unfold Func.isWrapper; first | (rw [if_pos (by decide +kernel)]; kernel_rfl) | (rw [if_neg (by decide +kernel)]; exact ⟨rfl, rfl⟩))
    (fun os started H enc _ => fnExactLetterAll_lifted os started H enc)
theorem fnExactLetterAll_card : Rows.FnExactLetterAllCardSaid :=
  Claim7.holds_tied_plain_at .later [] [.sentinel] true (true, "33431eb0f6bdfef61febccd31b5f655e64539fed7a117a58ed79ed3a3ffa2508") true
    fnExactLetterAll_row (fun _ h => by cases h) (by kernel_rfl) (fun _ h => by cases h) fnExactLetterAll_row_tie rfl ⟨rfl, rfl⟩ (by kernel_rfl) rfl
    (fun f fn hf hfn => by
      obtain rfl : f = 4 := Option.some.inj ((show Tryd.prog.funcNamed "loop.example/engrosser/laws.FnExactLetterAll" = some 4 by kernel_rfl).symm.trans hf) |>.symm
      obtain rfl : fn = Tryd.f4 := (Option.some.inj (Tryd.func4.symm.trans hfn)).symm
      exact ⟨by kernel_rfl, fun j t ht => by
        rw [Tryd.params4] at ht
        have h3 : t = 9 := by
          match j, ht with
          | 0, ht => simp at ht; simp [ht]
          | j + 1, ht => simp at ht
        subst h3
        exact (show Tryd.prog.wantsStandIn 9 = false by kernel_rfl)⟩)
    (by kernel_rfl)
#print axioms fnExactLetterAll_card
end Go.Proofs.YtannpeedfakhkaaDoor
