/- FnLettersText: drawn letters are read back from their bytes, all of them, and nothing is left; program and reference agree. -/
import Derived.Test.YtannpeedfakhkaaDoorLtrY
import Derived.Test.YtannpeedfakhkaaDoorCards
import Derived.Test.YtannpeedfakhkaaDoorTie
import Derived.SevenTiedAt
namespace Go.Proofs.YtannpeedfakhkaaDoor
open Go.ChangeShapes Go.WideShapes Go.ChangeAt Go.RowKit
theorem AL_tx {l : List Let} (h : okAll l = true) (h4 : (tx l).size ≤ 400) : AL (tx l) = l ∧ AR (tx l) = bEmpty ∧ AC (tx l) = 0 := by
  obtain ⟨a, b, c⟩ := AL_eq h4
  rw [a, b, c]; exact all_whole l h
theorem txtS_le : ∀ l : List Let, (txtS l).size ≤ 43 * l.length := by
  intro l
  unfold txtS
  split
  · rename_i h
    have : ∀ l : List Let, okAll l = true → (txts l).length ≤ 43 * l.length := by
      intro l
      induction l with
      | nil => intro _; simp [txts]
      | cons x l ih =>
        intro h
        have h' : letB x = true ∧ okAll l = true := by unfold okAll at h; simpa [okAll] using h
        have h1 := ih h'.2
        have h2 := lrow_size h'.1
        have : txts (x :: l) = (lrow x).data.toList ++ txts l := by simp [txts]
        rw [this, List.length_append, List.length_cons]; omega
    have := this l h
    have e : (⟨(txts l).toArray⟩ : ByteArray).size = (txts l).length := by simp [ByteArray.size]
    omega
  · show 0 ≤ _; omega
theorem okAll_take {l : List Let} {k : Nat} (h : okAll (l.take k) = false) : okAll l = false := by
  unfold okAll at h ⊢
  rw [List.all_eq_false] at h ⊢
  obtain ⟨x, hx, hb⟩ := h
  exact ⟨x, List.mem_of_mem_take hx, hb⟩
set_option maxRecDepth 100000 in
set_option maxHeartbeats 1000000 in
theorem lawTexts (A : Option Addr) (bs : List UInt8) (c : Nat) (hbc : bs.length ≤ c ∧ c ≤ maxLen) (a : Addr) (w : World) (hS : Sl encU 1 w A bs) (h0 : 0 < w.heap.size) (hE : w.cell? ⟨0, 0, none⟩ = some (.iface 93 (.pointer (some a)))) :
    Calls Tryd.prog 8 #[.slice A bs.length c] w fun e w' => e = .returned (.bool true) ∧ Below w.heap.size w w' := by
  have hmx : maxLen = 9223372036854775807 := by unfold maxLen; rfl
  by_cases hz : bs.length ≤ 1048576
  · have hz' : decide (1048576 < (bs.length : Int)) = false := by simp; omega
    have HD := Lib.hid (drawLetters_any A bs c w hz hbc.1 hbc.2 hS)
    have hbl : bs.length ≤ 9223372036854775807 := by omega
    have HE := Lib.hid hE
    clear hS hbc hE
    go_enter Tryd.func8, Tryd.ntmps8
    go_wp2_with fail
    refine HD.out.mono ?_
    rintro e w1 ⟨l, v, rfl, hl9, hlens, ho, hb1⟩
    obtain ⟨A1, c1, rfl, hl1, hm1, hR1⟩ := Sl.of_own encLet_len ho
    have hs1 := hb1.size
    have hE1 := cell0 h0 HE.out hb1
    have HF := Lib.hid (lens_fit hlens)
    have HT := Lib.hid (fun (w0 : World) (h : Sl encLet 2 w0 A1 l) => implTexts_any A1 l c1 w0 (by omega) h HF.out)
    have HST := Lib.hid (fun (w0 : World) (h : Sl encLet 2 w0 A1 l) => specTexts_any A1 l c1 w0 (by omega) h HF.out)
    have HNo := Lib.hid (show okAll l = false → txtS l = bEmpty from fun h => by unfold txtS; rw [if_neg (by rw [h]; simp)])
    have HYes := Lib.hid (show okAll l = true → (txtS l).size ≤ 400 → AL (txtS l) = l ∧ AR (txtS l) = bEmpty ∧ AC (txtS l) = 0 from fun h h4 => by rw [txtS_ok h] at h4 ⊢; exact AL_tx h h4)
    have hTs := txtS_le l
    generalize txtS l = T at *
    clear ho hlens
    go_wp2_with fail
    refine (HT.out w1 hR1).mono ?_
    rintro e w2 ⟨rfl, hb2⟩
    have hR2 := hR1.below hb2
    have hs2 := hb2.size
    have hb12 := hb1.trans (hb2.mono (by omega))
    clear hR1
    go_wp2_with fail
    refine (HST.out w2 hR2).mono ?_
    rintro e w3 ⟨rfl, hb3⟩
    have hR3 := hR2.below hb3
    have hs3 := hb3.size
    have hb13 := hb12.trans (hb3.mono (by omega))
    clear hR2
    go_wp2
    go_loopw [5, 6] (fun b i wr => ∃ (k : Nat) (B : Bool), k ≤ l.length ∧ i = .int .i64 k ∧ b = .bool B ∧ B = okAll (l.take k) ∧ Below w3.heap.size w3 wr) (fun _ i _ => l.length - (intOf i).toNat)
    case atStart => exact ⟨0, true, by omega, rfl, rfl, rfl, Below.refl _ _⟩
    case round =>
      obtain ⟨k, B, hk, rfl, rfl, hB, hbr⟩ := hrel
      have HB := Lib.hid hB
      clear hB
      have hsr := hbr.size
      by_cases hlt : k < l.length
      · obtain ⟨b, o, rfl, hbl2, d0, d1⟩ := Sl.at2 (hR3.below hbr) hlt
        have HS := Lib.hid (okAll_step hlt)
        have hx := HF.out _ (List.getElem_mem hlt)
        generalize l[k] = x at *
        cases B
        · go_wp2
          go_roundw
          case rel => exact ⟨k + 1, false, by omega, by go_num, rfl, by rw [HS.out, ← HB.out]; rfl, hbr⟩
          case measure => simp [intOf]; omega
        · go_wp2_with fail
          refine (implOk_any x wr hx.1 hx.2).mono ?_
          rintro e w4 ⟨rfl, hb4⟩
          have hb34 := hbr.trans (hb4.mono (by omega))
          generalize hbx : letB x = bx at *
          have HBX := Lib.hid hbx
          clear hbx
          cases bx
          · go_wp2
            go_roundw
            case rel => exact ⟨k + 1, false, by omega, by go_num, rfl, by rw [HS.out, ← HB.out]; rfl, hb34⟩
            case measure => simp [intOf]; omega
          · go_wp2
            go_roundw
            case rel => exact ⟨k + 1, true, by omega, by go_num, rfl, by rw [HS.out, ← HB.out]; rfl, hb34⟩
            case measure => simp [intOf]; omega
      · obtain rfl : k = l.length := by omega
        have hB2 := HB.out
        rw [List.take_length] at hB2
        have HB2 := Lib.hid hB2
        clear hB2
        have hb1r := hb13.trans (hbr.mono (by omega))
        cases B
        · obtain rfl := HNo.out HB2.out.symm
          go_wp2
          go_ret
          exact ⟨rfl, hb1r⟩
        · by_cases h4 : T.size ≤ 400
          · have h4' : decide (400 < (T.size : Int)) = false := by simp; omega
            obtain ⟨y1, y2, y3⟩ := HYes.out HB2.out.symm h4
            have HA := Lib.hid (fun (w0 : World) h0 hE => all_impl T a w0 (by omega) h0 hE)
            rw [y1, y2, y3] at HA
            clear y1 y2 y3
            have hRr := hR3.below hbr
            have hEr := cell0 h0 HE.out hb1r
            go_wp2_with fail
            refine (HA.out wr (by omega) hEr).mono ?_
            rintro e w5 ⟨v5, rfl, ho5, hb5⟩
            obtain ⟨A5, c5, rfl, hl5, hm5, hR5⟩ := Sl.of_own encLet_len ho5
            have hR5' := hRr.below hb5
            have hs5 := hb5.size
            clear ho5
            go_wp2_with fail
            refine (wp_same A5 A1 l c5 c1 w5 (by omega) hR5 hR5').mono ?_
            rintro e w6 ⟨rfl, hb6⟩
            have hb16 := (hb1r.trans (hb5.mono (by omega))).trans (hb6.mono (by omega))
            go_wp2
            go_ret
            exact ⟨rfl, hb16⟩
          · have h4' : decide (400 < (T.size : Int)) = true := by simp; omega
            go_wp2
            go_ret
            exact ⟨rfl, hb1r⟩
  · have hz' : decide (1048576 < (bs.length : Int)) = true := by simp; omega
    go_enter Tryd.func8, Tryd.ntmps8
    go_wp2
    go_ret
    exact ⟨rfl, Below.refl _ _⟩
set_option maxRecDepth 100000 in
theorem fnLettersText_lifted (os : Os) (started : os.Started) (H : Type) (enc : TypeId × Value → H) :
    ReturnsInHanded {} Tryd.checked os 8 .any (fun w args => (Rows.fnLettersTextSpec.pre enc Tryd.prog Tryd.f8 [] false w args ∧ laidMetH Tryd.prog laidE w) ∧ sizedMet enc Tryd.prog Tryd.f8 (OpenSpec.ofChange Rows.fnLettersTextSpec) false w args)
      (Rows.fnLettersTextSpec.post enc Tryd.prog Tryd.f8 false true false false) := by
  refine returnsInHanded_of_change_and (C := Tryd.checked) (X := fun w _ => laidMetH Tryd.prog laidE w) (fun _ _ _ hh h => h.of_heap hh) own0 started (by kernel_rfl) Tryd.func8
    (ChangeSpec.witness_shaped (enc := enc) (C := Tryd.checked) (os := os) (X := fun w _ => laidMetH Tryd.prog laidE w) false (World.doorLaid Tryd.prog 400 os) #[.slice none 0 0] 8 rfl (World.shaped_of_RefB (by kernel_rfl) (by kernel_rfl)) (by kernel_rfl) (by kernel_rfl) (by kernel_rfl) (door_met os _)) ?_
  intro W base args ds gs before hval0 hW _ _ hL _
  have hval : ∀ (j : Nat) t v, Tryd.f8.params[j]? = some t → args[j]? = some v → Value.okWide Tryd.prog W .any base t v := hval0
  have hW' := hW
  obtain ⟨p, q, hA0, hV, rfl, hfz, hnd⟩ := hW
  have hA : DataW.TrodAll enc Tryd.prog W 0 (fun _ => true) true Tryd.f8.params.toList args.toList ds p := hA0
  rw [Tryd.params8] at hA hval
  obtain ⟨v0, vs0, d0, ds0, p0, q0, hargs, rfl, rfl, h0, r0⟩ := trodAll_cons hA
  obtain ⟨rfl, rfl, rfl⟩ := trodAll_nil r0
  obtain rfl : args = #[v0] := by cases args; simp_all
  have hV1 : DataW.TrodVars enc Tryd.prog W (fun _ => true) ["loop.example/engrosser/impl.errMalformed"] gs q := hV
  obtain ⟨g1, rfl⟩ : ∃ g1, gs = [g1] := by
    match gs, hV1 with
    | [g1], _ => exact ⟨g1, rfl⟩
    | [], h => exact h.elim
    | g1 :: g2 :: r, h => obtain ⟨_, _, _, _, _, _, _, _, _, _, hs, _⟩ := h; exact hs.elim
  obtain ⟨a, hE, h0W⟩ := err_cell hL
  have k0 := h0
  have lt0 : ∀ x ∈ p0, x.block < W.heap.size := by obtain ⟨m, hm⟩ := k0; exact DataW.trod_lt m _ _ _ hm
  obtain ⟨A0, bs0, c0, rfl, hb0, hR0⟩ := open_bytes (hval 0 33 v0 rfl rfl) h0
  clear hA0 hval0
  refine (lawTexts A0 bs0 c0 hb0 a W hR0 h0W hE).mono fun e W' ⟨he, bel⟩ => ?_
  subst he
  exact ⟨_, rfl, _, _, _, [], _, _, hW', trodAll_mk1 (shut_bool Tryd.underlying4 _), (trodAll_cons_mk (Below.trod laidOut0 (by kernel_rfl) (of_decide_eq_true (by kernel_rfl)) k0 bel lt0) trodAll_mk0), Below.trodVars laidOut0 bel varsOk hV1, bel.frame _, fun h => by cases h⟩

theorem fnLettersText_row : Rows.FnLettersTextSaid :=
  OpenClaim.holds_of_wide 8 Tryd.f8 rfl rfl rfl rfl rfl rfl rfl ⟨rfl, rfl, rfl, rfl, rfl⟩ rfl rfl rfl rfl rfl (by kernel_rfl) Tryd.func8 (by kernel_rfl)
    (of_decide_eq_true (by kernel_rfl)) (by unfold Func.isWrapper; first | (rw [if_pos (by decide +kernel)]; kernel_rfl) | (rw [if_neg (by decide +kernel)]; exact ⟨rfl, rfl⟩))
    (fun os started H enc _ => fnLettersText_lifted os started H enc)
theorem fnLettersText_card : Rows.FnLettersTextCardSaid :=
  Claim7.holds_tied_plain_at .later [] [.sentinel] true (true, "33431eb0f6bdfef61febccd31b5f655e64539fed7a117a58ed79ed3a3ffa2508") true
    fnLettersText_row (fun _ h => by cases h) (by kernel_rfl) (fun _ h => by cases h) fnLettersText_row_tie rfl ⟨rfl, rfl⟩ (by kernel_rfl) rfl
    (fun f fn hf hfn => by
      obtain rfl : f = 8 := Option.some.inj ((show Tryd.prog.funcNamed "loop.example/engrosser/laws.FnLettersText" = some 8 by kernel_rfl).symm.trans hf) |>.symm
      obtain rfl : fn = Tryd.f8 := (Option.some.inj (Tryd.func8.symm.trans hfn)).symm
      exact ⟨by kernel_rfl, fun j t ht => by
        rw [Tryd.params8] at ht
        have h3 : t = 33 := by
          match j, ht with
          | 0, ht => simp at ht; simp [ht]
          | j + 1, ht => simp at ht
        subst h3
        exact (show Tryd.prog.wantsStandIn 33 = false by kernel_rfl)⟩)
    (by kernel_rfl)
#print axioms fnLettersText_card
end Go.Proofs.YtannpeedfakhkaaDoor
