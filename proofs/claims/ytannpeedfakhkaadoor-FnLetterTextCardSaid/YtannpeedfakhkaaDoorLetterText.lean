/- FnLetterText: a drawn letter is taken back from its bytes, whatever drawn bytes stand behind it; program and reference agree. -/
import Derived.Test.YtannpeedfakhkaaDoorLtrY
import Derived.Test.YtannpeedfakhkaaDoorCards
import Derived.Test.YtannpeedfakhkaaDoorTie
import Derived.SevenTiedAt
namespace Go.Proofs.YtannpeedfakhkaaDoor
open Go.ChangeShapes Go.WideShapes Go.ChangeAt Go.RowKit
set_option maxRecDepth 100000 in
set_option maxHeartbeats 1000000 in
theorem lawText (A A' : Option Addr) (bs bs' : List UInt8) (c c' : Nat) (hbc : bs.length ≤ c ∧ c ≤ maxLen) (hbc' : bs'.length ≤ c' ∧ c' ≤ maxLen) (a : Addr) (w : World) (hS : Sl encU 1 w A bs) (hS' : Sl encU 1 w A' bs') (h0 : 0 < w.heap.size) (hE : w.cell? ⟨0, 0, none⟩ = some (.iface 93 (.pointer (some a)))) :
    Calls Tryd.prog 7 #[.slice A bs.length c, .slice A' bs'.length c'] w fun e w' => e = .returned (.bool true) ∧ Below w.heap.size w w' := by
  have hmx : maxLen = 9223372036854775807 := by unfold maxLen; rfl
  by_cases hz : bs.length ≤ 1048576
  · have hz' : decide (1048576 < (bs.length : Int)) = false := by simp; omega
    have hbl : bs.length ≤ 9223372036854775807 := by omega
    have hbl' : bs'.length ≤ 9223372036854775807 := by omega
    by_cases hy : bs'.length ≤ 1048576
    · have hy' : decide (1048576 < (bs'.length : Int)) = false := by simp; omega
      have HD := Lib.hid (drawText_any A bs c w hz hbc.1 hbc.2 hS)
      clear hS
      go_enter Tryd.func7, Tryd.ntmps7
      go_wp2_with fail
      refine HD.out.mono ?_
      rintro e w1 ⟨x, rfl, hx1, hx2, hb1⟩
      have hE1 := cell0 h0 hE hb1
      have hs1 := hb1.size
      have hS1 := hS'.below hb1
      have hB1 := Blk.new w1 23 #[.string x.1, .string x.2]
      have hb11 := hb1.alloc (by omega) (.cells #[.string x.1, .string x.2] 23)
      have hE11 := cell0 h0 hE hb11
      have hsz : (w1.alloc (.cells #[.string x.1, .string x.2] 23)).heap.size = w1.heap.size + 1 := by simp
      have hS11 := hS'.below hb11
      have HX := Lib.hid (fun h => lrow_take x bEmpty h)
      have HX2 := Lib.hid (fun (t : ByteArray) (h : letB x = true) => lrow_take x t h)
      have h1m : x.1.size ≤ maxLen := by omega
      have h2m : x.2.size ≤ maxLen := by omega
      have HT := Lib.hid (fun w0 : World => implText_any x w0 h1m h2m)
      have HST := Lib.hid (fun w0 : World => specText_any x w0 h1m h2m)
      have HIO := Lib.hid (fun w0 : World => implOk_any x w0 h1m h2m)
      have HSO := Lib.hid (fun w0 : World => specOk_any x w0 h1m h2m)
      have HLS := Lib.hid (ltText_size x)
      have HLY := Lib.hid (show letB x = true → ltText x = lrow x from fun h => by unfold ltText lrow; rw [if_pos h])
      have HLN := Lib.hid (show letB x = false → ltText x = bEmpty from fun h => by unfold ltText; rw [if_neg (by rw [h]; simp)])
      have HE := Lib.hid hE
      clear hS1 hE hE1 hE11 hS11
      go_wp2_with fail
      refine (HT.out _).mono ?_
      rintro e w2 ⟨rfl, hb2⟩
      have hB2 := hB1.kept hb2
      have hb12 := hb11.trans (hb2.mono (by omega))
      have hs2 := hb2.size
      have c0 : w2.cell? ⟨w1.heap.size, 0, none⟩ = some (.string x.1) := hB2.cell 0
      have c1 : w2.cell? ⟨w1.heap.size, 1, none⟩ = some (.string x.2) := hB2.cell 1
      have hlt := hB2.lt
      generalize ltText x = T at *
      generalize hbx : letB x = bx at *
      have HBX := Lib.hid hbx
      clear hbx
      go_wp2_with fail
      refine wp_region_below (by kernel_rfl) (by kernel_rfl) ?_
      iterate 11 (refine wpQuiet_step (fun K hK => ?_); go_simp; first | (apply Exists.intro; refine ⟨fun W hW => ?_, hK _ ?_⟩; (first | rfl | (go_at_call 27; exact quiet_call hW (Nat.le_refl _) (HST.out _)) | (go_at_call 28; exact quiet_call hW (Nat.le_refl _) (HIO.out _)) | (go_at_call 24; exact quiet_call hW (Nat.le_refl _) (HSO.out _)) | (have e0 := (hW.cell (p := ⟨w1.heap.size, 0, none⟩) hlt).trans c0; have e1 := (hW.cell (p := ⟨w1.heap.size, 1, none⟩) hlt).trans c1; go_simp; rfl)); clear hK K) | (refine hK _ ?_; clear hK K))
      refine wpQuiet_nil ?_
      intro W hW
      have hB3 := hB2.kept hW
      have hb13 := hb12.trans (hW.mono (by omega))
      have hs3 := hW.size
      have c0 : W.cell? ⟨w1.heap.size, 0, none⟩ = some (.string x.1) := hB3.cell 0
      have c1 : W.cell? ⟨w1.heap.size, 1, none⟩ = some (.string x.2) := hB3.cell 1
      go_wp2_with fail
      refine (HSO.out _).mono ?_
      rintro e w4 ⟨rfl, hb4⟩
      have hB4 := hB3.kept hb4
      have hb14 := hb13.trans (hb4.mono (by omega))
      have hs4 := hb4.size
      have c0 : w4.cell? ⟨w1.heap.size, 0, none⟩ = some (.string x.1) := hB4.cell 0
      have c1 : w4.cell? ⟨w1.heap.size, 1, none⟩ = some (.string x.2) := hB4.cell 1
      cases bx
      · obtain rfl := HLN.out rfl
        go_wp2
        go_ret
        exact ⟨rfl, hb14⟩
      · obtain rfl := HLY.out rfl
        go_wp2_with fail
        refine (drawAll_any A' bs' c' w4 hy hbc'.1 hbc'.2 (hS'.below hb14)).mono ?_
        rintro e w5 ⟨t, rfl, ht, hb5⟩
        have hB5 := hB4.kept hb5
        have hb15 := hb14.trans (hb5.mono (by omega))
        have hs5 := hb5.size
        have hE5 := cell0 h0 HE.out hb15
        obtain ⟨t1, t2, t3, t4⟩ := HX2.out t (by first | trivial | rfl)
        have hcat : ¬ (9223372036854775807 < (lrow x).size + t.size) := by omega
        have hTS := Lib.hid t4
        have HP := Lib.hid (show ∀ w0 : World, 0 < w0.heap.size → w0.cell? ⟨0, 0, none⟩ = some (.iface 93 (.pointer (some a))) →
            Calls Tryd.prog 13 #[.string (lrow x ++ t)] w0 fun e w' => e = .returned (.tuple #[.agg #[.string x.1, .string x.2], .int .i64 (lrow x).size, .int .i64 0]) ∧ Below w0.heap.size w0 w' from
          fun w0 h0 hE => (implTake_any (lrow x ++ t) a w0 (by rw [ByteArray.size_append]; omega) h0 hE).mono fun e w' ⟨he, hb⟩ => ⟨by rw [he, t1, t2, t3, t4]; rfl, hb⟩)
        clear t1 t2 t3 t4 HX HX2
        have hq : (((lrow x).size : Int) == (x.2.size : Int) + 3) = true := by rw [hTS.out]; simp
        generalize lrow x = T at *
        have c0 : w5.cell? ⟨w1.heap.size, 0, none⟩ = some (.string x.1) := hB5.cell 0
        have c1 : w5.cell? ⟨w1.heap.size, 1, none⟩ = some (.string x.2) := hB5.cell 1
        go_wp2_with fail
        refine (HP.out w5 (by omega) hE5).mono ?_
        rintro e w6 ⟨rfl, hb6⟩
        have hB6 := hB5.kept hb6
        have hb16 := hb15.trans (hb6.mono (by omega))
        have hs6 := hb6.size
        have hB7 := hB6.alloc (.cells #[.string x.1, .string x.2] 23)
        have c0 : (w6.alloc (.cells #[.string x.1, .string x.2] 23)).cell? ⟨w1.heap.size, 0, none⟩ = some (.string x.1) := hB7.cell 0
        have c1 : (w6.alloc (.cells #[.string x.1, .string x.2] 23)).cell? ⟨w1.heap.size, 1, none⟩ = some (.string x.2) := hB7.cell 1
        have hb17 := hb16.alloc (by omega) (.cells #[.string x.1, .string x.2] 23)
        go_wp2
        go_ret
        exact ⟨rfl, hb17⟩
    · have hy' : decide (1048576 < (bs'.length : Int)) = true := by simp; omega
      go_enter Tryd.func7, Tryd.ntmps7
      go_wp2
      go_ret
      exact ⟨rfl, Below.refl _ _⟩
  · have hz' : decide (1048576 < (bs.length : Int)) = true := by simp; omega
    go_enter Tryd.func7, Tryd.ntmps7
    go_wp2
    go_ret
    exact ⟨rfl, Below.refl _ _⟩
set_option maxRecDepth 100000 in
theorem fnLetterText_lifted (os : Os) (started : os.Started) (H : Type) (enc : TypeId × Value → H) :
    ReturnsInHanded {} Tryd.checked os 7 .any (fun w args => (Rows.fnLetterTextSpec.pre enc Tryd.prog Tryd.f7 [] false w args ∧ laidMetH Tryd.prog laidE w) ∧ sizedMet enc Tryd.prog Tryd.f7 (OpenSpec.ofChange Rows.fnLetterTextSpec) false w args)
      (Rows.fnLetterTextSpec.post enc Tryd.prog Tryd.f7 false true false false) := by
  refine returnsInHanded_of_change_and (C := Tryd.checked) (X := fun w _ => laidMetH Tryd.prog laidE w) (fun _ _ _ hh h => h.of_heap hh) own0 started (by kernel_rfl) Tryd.func7
    (ChangeSpec.witness_shaped (enc := enc) (C := Tryd.checked) (os := os) (X := fun w _ => laidMetH Tryd.prog laidE w) false (World.doorLaid Tryd.prog 400 os) #[.slice none 0 0, .slice none 0 0] 8 rfl (World.shaped_of_RefB (by kernel_rfl) (by kernel_rfl)) (by kernel_rfl) (by kernel_rfl) (by kernel_rfl) (door_met os _)) ?_
  intro W base args ds gs before hval0 hW _ _ hL _
  have hval : ∀ (j : Nat) t v, Tryd.f7.params[j]? = some t → args[j]? = some v → Value.okWide Tryd.prog W .any base t v := hval0
  have hW' := hW
  obtain ⟨p, q, hA0, hV, rfl, hfz, hnd⟩ := hW
  have hA : DataW.TrodAll enc Tryd.prog W 0 (fun _ => true) true Tryd.f7.params.toList args.toList ds p := hA0
  rw [Tryd.params7] at hA hval
  obtain ⟨v0, vs0, d0, ds0, p0, q0, hargs, rfl, rfl, h0, r0⟩ := trodAll_cons hA
  obtain ⟨v1, vs1, d1, ds1, p1, q1, rfl, rfl, rfl, h1, r1⟩ := trodAll_cons r0
  obtain ⟨rfl, rfl, rfl⟩ := trodAll_nil r1
  obtain rfl : args = #[v0, v1] := by cases args; simp_all
  have hV1 : DataW.TrodVars enc Tryd.prog W (fun _ => true) ["loop.example/engrosser/impl.errMalformed"] gs q := hV
  obtain ⟨g1, rfl⟩ : ∃ g1, gs = [g1] := by
    match gs, hV1 with
    | [g1], _ => exact ⟨g1, rfl⟩
    | [], h => exact h.elim
    | g1 :: g2 :: r, h => obtain ⟨_, _, _, _, _, _, _, _, _, _, hs, _⟩ := h; exact hs.elim
  obtain ⟨a, hE, h0W⟩ := err_cell hL
  have k0 := h0
  have lt0 : ∀ x ∈ p0, x.block < W.heap.size := by obtain ⟨m, hm⟩ := k0; exact DataW.trod_lt m _ _ _ hm
  obtain ⟨A0, bs0, c0, rfl, hb0, hR0⟩ := open_bytes (hval 0 33 v0 rfl rfl) h0
  have k1 := h1
  have lt1 : ∀ x ∈ p1, x.block < W.heap.size := by obtain ⟨m, hm⟩ := k1; exact DataW.trod_lt m _ _ _ hm
  obtain ⟨A1, bs1, c1, rfl, hb1, hR1⟩ := open_bytes (hval 1 33 v1 rfl rfl) h1
  clear hA0 hval0
  refine (lawText A0 A1 bs0 bs1 c0 c1 hb0 hb1 a W hR0 hR1 h0W hE).mono fun e W' ⟨he, bel⟩ => ?_
  subst he
  exact ⟨_, rfl, _, _, _, [], _, _, hW', trodAll_mk1 (shut_bool Tryd.underlying4 _), (trodAll_cons_mk (Below.trod laidOut0 (by kernel_rfl) (of_decide_eq_true (by kernel_rfl)) k0 bel lt0) (trodAll_cons_mk (Below.trod laidOut0 (by kernel_rfl) (of_decide_eq_true (by kernel_rfl)) k1 bel lt1) trodAll_mk0)), Below.trodVars laidOut0 bel varsOk hV1, bel.frame _, fun h => by cases h⟩

theorem fnLetterText_row : Rows.FnLetterTextSaid :=
  OpenClaim.holds_of_wide 7 Tryd.f7 rfl rfl rfl rfl rfl rfl rfl ⟨rfl, rfl, rfl, rfl, rfl⟩ rfl rfl rfl rfl rfl (by kernel_rfl) Tryd.func7 (by kernel_rfl)
    (of_decide_eq_true (by kernel_rfl)) (by unfold Func.isWrapper; first | (rw [if_pos (by decide +kernel)]; kernel_rfl) | (rw [if_neg (by decide +kernel)]; exact ⟨rfl, rfl⟩))
    (fun os started H enc _ => fnLetterText_lifted os started H enc)
theorem fnLetterText_card : Rows.FnLetterTextCardSaid :=
  Claim7.holds_tied_plain_at .later [] [.sentinel] true (true, "33431eb0f6bdfef61febccd31b5f655e64539fed7a117a58ed79ed3a3ffa2508") true
    fnLetterText_row (fun _ h => by cases h) (by kernel_rfl) (fun _ h => by cases h) fnLetterText_row_tie rfl ⟨rfl, rfl⟩ (by kernel_rfl) rfl
    (fun f fn hf hfn => by
      obtain rfl : f = 7 := Option.some.inj ((show Tryd.prog.funcNamed "loop.example/engrosser/laws.FnLetterText" = some 7 by kernel_rfl).symm.trans hf) |>.symm
      obtain rfl : fn = Tryd.f7 := (Option.some.inj (Tryd.func7.symm.trans hfn)).symm
      exact ⟨by kernel_rfl, fun j t ht => by
        rw [Tryd.params7] at ht
        have h3 : t = 33 := by
          match j, ht with
          | 0, ht => simp at ht; simp [ht]
          | 1, ht => simp at ht; simp [ht]
          | j + 2, ht => simp at ht
        subst h3
        exact (show Tryd.prog.wantsStandIn 33 = false by kernel_rfl)⟩)
    (by kernel_rfl)
#print axioms fnLetterText_card
end Go.Proofs.YtannpeedfakhkaaDoor
