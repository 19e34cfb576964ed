/- FnLetterOne: of the bytes of two drawn letters the first is taken, then the second, and nothing is left; program and reference agree. -/
import Derived.Test.YtannpeedfakhkaaDoorLtrY
import Derived.Test.YtannpeedfakhkaaDoorCards
import Derived.Test.YtannpeedfakhkaaDoorTie
import Derived.SevenTiedAt
namespace Go.Proofs.YtannpeedfakhkaaDoor
open Go.ChangeShapes Go.WideShapes Go.ChangeAt Go.RowKit
theorem two_sl (w : World) (x y : Let) : Sl encLet 2 (w.alloc (.cells #[.string x.1, .string x.2, .string y.1, .string y.2] 23)) (some ⟨w.heap.size, 0, none⟩) [x, y] := by
  obtain ⟨A, c, hv, _, _, hS⟩ := Sl.of_own (l := [x, y]) encLet_len (own_of_blk (base := 0) (n := 2) (k := 2) (Blk.new w 23 #[.string x.1, .string x.2, .string y.1, .string y.2]) (Nat.zero_le _) (by simp [maxLen]) (by simp) (by simp [encLet]))
  simp at hv
  obtain ⟨rfl, rfl⟩ := hv
  exact hS
theorem two_tx {x y : Let} (h : letB x = true) (h2 : letB y = true) : tx [x, y] = lrow x ++ lrow y ∧ (tx [x, y]).size ≤ 400 := by
  have e : tx [x, y] = lrow x ++ lrow y := by rw [tx_cons, tx_cons, tx_nil, app_empty]
  have h3 : (lrow x).size ≤ 43 := by have := lrow_size h; simpa using this
  have h4 : (lrow y).size ≤ 43 := by have := lrow_size h2; simpa using this
  refine ⟨e, ?_⟩
  rw [e, ByteArray.size_append]
  omega
set_option maxRecDepth 100000 in
set_option maxHeartbeats 2000000 in
theorem lawOne (A A' : Option Addr) (bs bs' : List UInt8) (c c' : Nat) (hbc : bs.length ≤ c ∧ c ≤ maxLen) (hbc' : bs'.length ≤ c' ∧ c' ≤ maxLen) (a : Addr) (w : World) (hS : Sl encU 1 w A bs) (hS' : Sl encU 1 w A' bs') (h0 : 0 < w.heap.size) (hE : w.cell? ⟨0, 0, none⟩ = some (.iface 93 (.pointer (some a)))) :
    Calls Tryd.prog 6 #[.slice A bs.length c, .slice A' bs'.length c'] w fun e w' => e = .returned (.bool true) ∧ Below w.heap.size w w' := by
  have hmx : maxLen = 9223372036854775807 := by unfold maxLen; rfl
  by_cases hz : bs.length ≤ 1048576
  · have hz' : decide (1048576 < (bs.length : Int)) = false := by simp; omega
    have hbl : bs.length ≤ 9223372036854775807 := by omega
    have hbl' : bs'.length ≤ 9223372036854775807 := by omega
    by_cases hy : bs'.length ≤ 1048576
    · have hy' : decide (1048576 < (bs'.length : Int)) = false := by simp; omega
      have HD := Lib.hid (drawOk_any A bs c w hz hbc.1 hbc.2 hS)
      have HE := Lib.hid hE
      clear hS hE
      go_enter Tryd.func6, Tryd.ntmps6
      go_wp2_with fail
      refine HD.out.mono ?_
      rintro e w1 ⟨x, rfl, hx1, hx2, hb1⟩
      have hs1 := hb1.size
      have hB1 := Blk.new w1 23 #[.string x.1, .string x.2]
      have hb11 := hb1.alloc (by omega) (.cells #[.string x.1, .string x.2] 23)
      have hsz : (w1.alloc (.cells #[.string x.1, .string x.2] 23)).heap.size = w1.heap.size + 1 := by simp
      go_wp2_with fail
      generalize w1.alloc (.cells #[.string x.1, .string x.2] 23) = w2 at *
      refine (drawOk_any A' bs' c' w2 hy hbc'.1 hbc'.2 (hS'.below hb11)).mono ?_
      rintro e w3 ⟨y, rfl, hy1, hy2, hb3⟩
      have hs3 := hb3.size
      have hB3 := (hB1.kept hb3).alloc (.cells #[.string y.1, .string y.2] 23)
      have hY3 := Blk.new w3 23 #[.string y.1, .string y.2]
      have hb13 := (hb11.trans (hb3.mono (by omega))).alloc (by omega) (.cells #[.string y.1, .string y.2] 23)
      have hsz3 : (w3.alloc (.cells #[.string y.1, .string y.2] 23)).heap.size = w3.heap.size + 1 := by simp
      have c0 : (w3.alloc (.cells #[.string y.1, .string y.2] 23)).cell? ⟨w1.heap.size, 0, none⟩ = some (.string x.1) := hB3.cell 0
      have c1 : (w3.alloc (.cells #[.string y.1, .string y.2] 23)).cell? ⟨w1.heap.size, 1, none⟩ = some (.string x.2) := hB3.cell 1
      have HFit := Lib.hid (show ∀ z ∈ [x, y], z.1.size ≤ maxLen ∧ z.2.size ≤ maxLen by intro z hz; simp at hz; rcases hz with rfl | rfl <;> omega)
      have HT := Lib.hid (fun w0 : World => implTexts_any _ [x, y] 2 _ (by simp) (two_sl w0 x y) HFit.out)
      have HST := Lib.hid (fun w0 : World => specTexts_any _ [x, y] 2 _ (by simp) (two_sl w0 x y) HFit.out)
      have HOx := Lib.hid (fun w0 : World => specOk_any x w0 (by omega) (by omega))
      have HOy := Lib.hid (fun w0 : World => specOk_any y w0 (by omega) (by omega))
      have HTx := Lib.hid (fun w0 : World => implText_any x w0 (by omega) (by omega))
      have HTy := Lib.hid (fun w0 : World => implText_any y w0 (by omega) (by omega))
      have HOK := Lib.hid (show letB x = true → letB y = true → txtS [x, y] = ltText x ++ ltText y ∧ (ltText x ++ ltText y).size ≤ 400 ∧ (ltText x).size ≤ 43 ∧ (ltText y).size ≤ 43 ∧
          (∀ w0 : World, 0 < w0.heap.size → w0.cell? ⟨0, 0, none⟩ = some (.iface 93 (.pointer (some a))) → Calls Tryd.prog 16 #[.string (ltText x ++ ltText y)] w0 (AllP [x, y] bEmpty 0 w0)) from fun h h2 => by
        have e1 : ltText x = lrow x := by unfold ltText lrow; rw [if_pos h]
        have e2 : ltText y = lrow y := by unfold ltText lrow; rw [if_pos h2]
        have hok : okAll [x, y] = true := by unfold okAll; simp [h, h2]
        obtain ⟨t1, t2⟩ := two_tx h h2
        obtain ⟨q1, q2, q3⟩ := all_whole [x, y] hok
        obtain ⟨p1, p2, p3⟩ := AL_eq t2
        refine ⟨by rw [txtS_ok hok, t1, e1, e2], by rw [e1, e2, ← t1]; exact t2, ltText_size x, ltText_size y, fun w0 h0 hE => ?_⟩
        have := all_impl (tx [x, y]) a w0 (by omega) h0 hE
        rw [p1, p2, p3, q1, q2, q3, t1, ← e1, ← e2] at this
        exact this)
      generalize ltText x = X at *
      generalize ltText y = Y at *
      generalize txtS [x, y] = T at *
      go_wp2_with fail
      generalize w3.alloc (.cells #[.string y.1, .string y.2] 23) = w4 at *
      rw [← hsz3]
      refine (HT.out w4).mono ?_
      rintro e w5 ⟨rfl, hb5⟩
      have hb45 := ((Below.refl w4.heap.size w4).alloc (Nat.le_refl _) (.cells #[.string x.1, .string x.2, .string y.1, .string y.2] 23)).trans (hb5.mono (by simp))
      have hX5 := hB3.kept hb45
      have hY5 := hY3.kept hb45
      have hs5 := hb45.size
      have c0 : w5.cell? ⟨w1.heap.size, 0, none⟩ = some (.string x.1) := hX5.cell 0
      have c1 : w5.cell? ⟨w1.heap.size, 1, none⟩ = some (.string x.2) := hX5.cell 1
      have d0 : w5.cell? ⟨w3.heap.size, 0, none⟩ = some (.string y.1) := hY5.cell 0
      have d1 : w5.cell? ⟨w3.heap.size, 1, none⟩ = some (.string y.2) := hY5.cell 1
      have hb15 := hb13.trans (hb45.mono (by omega))
      clear hB3 hY3 hb5 hb45 hB1 hb11 hb3
      go_wp2_with fail
      refine (HST.out w5).mono ?_
      rintro e w6 ⟨rfl, hb6⟩
      have hb56 := ((Below.refl w5.heap.size w5).alloc (Nat.le_refl _) (.cells #[.string x.1, .string x.2, .string y.1, .string y.2] 23)).trans (hb6.mono (by simp))
      have hX6 := hX5.kept hb56
      have hY6 := hY5.kept hb56
      have hs6 := hb56.size
      have c0 : w6.cell? ⟨w1.heap.size, 0, none⟩ = some (.string x.1) := hX6.cell 0
      have c1 : w6.cell? ⟨w1.heap.size, 1, none⟩ = some (.string x.2) := hX6.cell 1
      have d0 : w6.cell? ⟨w3.heap.size, 0, none⟩ = some (.string y.1) := hY6.cell 0
      have d1 : w6.cell? ⟨w3.heap.size, 1, none⟩ = some (.string y.2) := hY6.cell 1
      have hb16 := hb15.trans (hb56.mono (by omega))
      generalize letB x = bx at *
      generalize letB y = bw at *
      clear hX5 hY5 hb6 hb56
      go_wp2_with fail
      refine (HOx.out w6).mono ?_
      rintro e w7 ⟨rfl, hb7⟩
      have hX7 := hX6.kept hb7
      have hY7 := hY6.kept hb7
      have hs7 := hb7.size
      have c0 : w7.cell? ⟨w1.heap.size, 0, none⟩ = some (.string x.1) := hX7.cell 0
      have c1 : w7.cell? ⟨w1.heap.size, 1, none⟩ = some (.string x.2) := hX7.cell 1
      have d0 : w7.cell? ⟨w3.heap.size, 0, none⟩ = some (.string y.1) := hY7.cell 0
      have d1 : w7.cell? ⟨w3.heap.size, 1, none⟩ = some (.string y.2) := hY7.cell 1
      have hb17 := hb16.trans (hb7.mono (by omega))
      clear hX6 hY6
      cases bx
      · go_wp2_with fail
        refine (HST.out w7).mono ?_
        rintro e w8 ⟨rfl, hb8⟩
        have hb78 := ((Below.refl w7.heap.size w7).alloc (Nat.le_refl _) (.cells #[.string x.1, .string x.2, .string y.1, .string y.2] 23)).trans (hb8.mono (by simp))
        have hb18 := hb17.trans (hb78.mono (by omega))
        go_wp2
        go_ret
        exact ⟨rfl, hb18⟩
      · go_wp2_with fail
        refine (HOy.out w7).mono ?_
        rintro e w8 ⟨rfl, hb8⟩
        have hX8 := hX7.kept hb8
        have hY8 := hY7.kept hb8
        have hs8 := hb8.size
        have c0 : w8.cell? ⟨w1.heap.size, 0, none⟩ = some (.string x.1) := hX8.cell 0
        have c1 : w8.cell? ⟨w1.heap.size, 1, none⟩ = some (.string x.2) := hX8.cell 1
        have d0 : w8.cell? ⟨w3.heap.size, 0, none⟩ = some (.string y.1) := hY8.cell 0
        have d1 : w8.cell? ⟨w3.heap.size, 1, none⟩ = some (.string y.2) := hY8.cell 1
        have hb18 := hb17.trans (hb8.mono (by omega))
        clear hX7 hY7
        cases bw
        · go_wp2_with fail
          refine (HST.out w8).mono ?_
          rintro e w9 ⟨rfl, hb9⟩
          have hb89 := ((Below.refl w8.heap.size w8).alloc (Nat.le_refl _) (.cells #[.string x.1, .string x.2, .string y.1, .string y.2] 23)).trans (hb9.mono (by simp))
          have hb19 := hb18.trans (hb89.mono (by omega))
          go_wp2
          go_ret
          exact ⟨rfl, hb19⟩
        · obtain ⟨rfl, t2, t3, t4, hall⟩ := HOK.out (by first | trivial | rfl) (by first | trivial | rfl)
          have hE8 := cell0 h0 HE.out hb18
          have HALL := Lib.hid hall
          clear hall HOK HT HST HOx HOy
          have hcat : ¬ (9223372036854775807 < X.size + Y.size) := by omega
          go_wp2_with fail
          refine (HALL.out w8 (by omega) hE8).mono ?_
          rintro e w9 ⟨v, rfl, ho, hb9⟩
          rcases Go.Joins.ownsRow_forms ho with ⟨he, h0'⟩ | ⟨g, cap, rfl⟩
          · simp at h0'
          · have hgl := (ho.lt g rfl).2
            have k0 : w9.cell? ⟨g, 0, none⟩ = some (.string x.1) := ho.cellAt 0 (by simp)
            have k1 : w9.cell? ⟨g, 1, none⟩ = some (.string x.2) := ho.cellAt 1 (by simp)
            have k2 : w9.cell? ⟨g, 2, none⟩ = some (.string y.1) := ho.cellAt 2 (by simp)
            have k3 : w9.cell? ⟨g, 3, none⟩ = some (.string y.2) := ho.cellAt 3 (by simp)
            have hX9 := hX8.kept hb9
            have hY9 := hY8.kept hb9
            have hs9 := hb9.size
            have c0 : w9.cell? ⟨w1.heap.size, 0, none⟩ = some (.string x.1) := hX9.cell 0
            have c1 : w9.cell? ⟨w1.heap.size, 1, none⟩ = some (.string x.2) := hX9.cell 1
            have d0 : w9.cell? ⟨w3.heap.size, 0, none⟩ = some (.string y.1) := hY9.cell 0
            have d1 : w9.cell? ⟨w3.heap.size, 1, none⟩ = some (.string y.2) := hY9.cell 1
            have hxl := hX9.lt
            have hyl := hY9.lt
            have hb19 := hb18.trans (hb9.mono (by omega))
            clear ho hX8 hY8 hX9 hY9 HALL hb9 HFit
            go_wp2_with fail
            refine wp_region_below (by kernel_rfl) (by kernel_rfl) ?_
            iterate 35 (refine wpQuiet_step (fun K hK => ?_); go_simp; first | (apply Exists.intro; refine ⟨fun W hW => ?_, hK _ ?_⟩; (first | rfl | (go_at_call 25; exact quiet_call hW (Nat.le_refl _) (HTx.out _)) | (go_at_call 25; exact quiet_call hW (Nat.le_refl _) (HTy.out _)) | (have e0 := (hW.cell (p := ⟨w1.heap.size, 0, none⟩) hxl).trans c0; have e1 := (hW.cell (p := ⟨w1.heap.size, 1, none⟩) hxl).trans c1; have f0 := (hW.cell (p := ⟨w3.heap.size, 0, none⟩) hyl).trans d0; have f1 := (hW.cell (p := ⟨w3.heap.size, 1, none⟩) hyl).trans d1; have g0 := (hW.cell (p := ⟨g, 0, none⟩) hgl).trans k0; have g1 := (hW.cell (p := ⟨g, 1, none⟩) hgl).trans k1; have g2 := (hW.cell (p := ⟨g, 2, none⟩) hgl).trans k2; have g3 := (hW.cell (p := ⟨g, 3, none⟩) hgl).trans k3; go_simp; rfl)); clear hK K) | (refine hK _ ?_; clear hK K))
            refine wpQuiet_nil ?_
            intro W hW
            have hb1W := hb19.trans (hW.mono (by omega))
            go_wp2
            go_ret
            exact ⟨rfl, hb1W⟩
    · have hy' : decide (1048576 < (bs'.length : Int)) = true := by simp; omega
      go_enter Tryd.func6, Tryd.ntmps6
      go_wp2
      go_ret
      exact ⟨rfl, Below.refl _ _⟩
  · have hz' : decide (1048576 < (bs.length : Int)) = true := by simp; omega
    go_enter Tryd.func6, Tryd.ntmps6
    go_wp2
    go_ret
    exact ⟨rfl, Below.refl _ _⟩
set_option maxRecDepth 100000 in
theorem fnLetterOne_lifted (os : Os) (started : os.Started) (H : Type) (enc : TypeId × Value → H) :
    ReturnsInHanded {} Tryd.checked os 6 .any (fun w args => (Rows.fnLetterOneSpec.pre enc Tryd.prog Tryd.f6 [] false w args ∧ laidMetH Tryd.prog laidE w) ∧ sizedMet enc Tryd.prog Tryd.f6 (OpenSpec.ofChange Rows.fnLetterOneSpec) false w args)
      (Rows.fnLetterOneSpec.post enc Tryd.prog Tryd.f6 false true false false) := by
  refine returnsInHanded_of_change_and (C := Tryd.checked) (X := fun w _ => laidMetH Tryd.prog laidE w) (fun _ _ _ hh h => h.of_heap hh) own0 started (by kernel_rfl) Tryd.func6
    (ChangeSpec.witness_shaped (enc := enc) (C := Tryd.checked) (os := os) (X := fun w _ => laidMetH Tryd.prog laidE w) false (World.doorLaid Tryd.prog 400 os) #[.slice none 0 0, .slice none 0 0] 8 rfl (World.shaped_of_RefB (by kernel_rfl) (by kernel_rfl)) (by kernel_rfl) (by kernel_rfl) (by kernel_rfl) (door_met os _)) ?_
  intro W base args ds gs before hval0 hW _ _ hL _
  have hval : ∀ (j : Nat) t v, Tryd.f6.params[j]? = some t → args[j]? = some v → Value.okWide Tryd.prog W .any base t v := hval0
  have hW' := hW
  obtain ⟨p, q, hA0, hV, rfl, hfz, hnd⟩ := hW
  have hA : DataW.TrodAll enc Tryd.prog W 0 (fun _ => true) true Tryd.f6.params.toList args.toList ds p := hA0
  rw [Tryd.params6] at hA hval
  obtain ⟨v0, vs0, d0, ds0, p0, q0, hargs, rfl, rfl, h0, r0⟩ := trodAll_cons hA
  obtain ⟨v1, vs1, d1, ds1, p1, q1, rfl, rfl, rfl, h1, r1⟩ := trodAll_cons r0
  obtain ⟨rfl, rfl, rfl⟩ := trodAll_nil r1
  obtain rfl : args = #[v0, v1] := by cases args; simp_all
  have hV1 : DataW.TrodVars enc Tryd.prog W (fun _ => true) ["loop.example/engrosser/impl.errMalformed"] gs q := hV
  obtain ⟨g1, rfl⟩ : ∃ g1, gs = [g1] := by
    match gs, hV1 with
    | [g1], _ => exact ⟨g1, rfl⟩
    | [], h => exact h.elim
    | g1 :: g2 :: r, h => obtain ⟨_, _, _, _, _, _, _, _, _, _, hs, _⟩ := h; exact hs.elim
  obtain ⟨a, hE, h0W⟩ := err_cell hL
  have k0 := h0
  have lt0 : ∀ x ∈ p0, x.block < W.heap.size := by obtain ⟨m, hm⟩ := k0; exact DataW.trod_lt m _ _ _ hm
  obtain ⟨A0, bs0, c0, rfl, hb0, hR0⟩ := open_bytes (hval 0 33 v0 rfl rfl) h0
  have k1 := h1
  have lt1 : ∀ x ∈ p1, x.block < W.heap.size := by obtain ⟨m, hm⟩ := k1; exact DataW.trod_lt m _ _ _ hm
  obtain ⟨A1, bs1, c1, rfl, hb1, hR1⟩ := open_bytes (hval 1 33 v1 rfl rfl) h1
  clear hA0 hval0
  refine (lawOne A0 A1 bs0 bs1 c0 c1 hb0 hb1 a W hR0 hR1 h0W hE).mono fun e W' ⟨he, bel⟩ => ?_
  subst he
  exact ⟨_, rfl, _, _, _, [], _, _, hW', trodAll_mk1 (shut_bool Tryd.underlying4 _), (trodAll_cons_mk (Below.trod laidOut0 (by kernel_rfl) (of_decide_eq_true (by kernel_rfl)) k0 bel lt0) (trodAll_cons_mk (Below.trod laidOut0 (by kernel_rfl) (of_decide_eq_true (by kernel_rfl)) k1 bel lt1) trodAll_mk0)), Below.trodVars laidOut0 bel varsOk hV1, bel.frame _, fun h => by cases h⟩

theorem fnLetterOne_row : Rows.FnLetterOneSaid :=
  OpenClaim.holds_of_wide 6 Tryd.f6 rfl rfl rfl rfl rfl rfl rfl ⟨rfl, rfl, rfl, rfl, rfl⟩ rfl rfl rfl rfl rfl (by kernel_rfl) Tryd.func6 (by kernel_rfl)
    (of_decide_eq_true (by kernel_rfl)) (by unfold Func.isWrapper; first | (rw [if_pos (by decide +kernel)]; kernel_rfl) | (rw [if_neg (by decide +kernel)]; exact ⟨rfl, rfl⟩))
    (fun os started H enc _ => fnLetterOne_lifted os started H enc)
theorem fnLetterOne_card : Rows.FnLetterOneCardSaid :=
  Claim7.holds_tied_plain_at .later [] [.sentinel] true (true, "33431eb0f6bdfef61febccd31b5f655e64539fed7a117a58ed79ed3a3ffa2508") true
    fnLetterOne_row (fun _ h => by cases h) (by kernel_rfl) (fun _ h => by cases h) fnLetterOne_row_tie rfl ⟨rfl, rfl⟩ (by kernel_rfl) rfl
    (fun f fn hf hfn => by
      obtain rfl : f = 6 := Option.some.inj ((show Tryd.prog.funcNamed "loop.example/engrosser/laws.FnLetterOne" = some 6 by kernel_rfl).symm.trans hf) |>.symm
      obtain rfl : fn = Tryd.f6 := (Option.some.inj (Tryd.func6.symm.trans hfn)).symm
      exact ⟨by kernel_rfl, fun j t ht => by
        rw [Tryd.params6] at ht
        have h3 : t = 33 := by
          match j, ht with
          | 0, ht => simp at ht; simp [ht]
          | 1, ht => simp at ht; simp [ht]
          | j + 2, ht => simp at ht
        subst h3
        exact (show Tryd.prog.wantsStandIn 33 = false by kernel_rfl)⟩)
    (by kernel_rfl)
#print axioms fnLetterOne_card
end Go.Proofs.YtannpeedfakhkaaDoor
