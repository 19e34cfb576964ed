/- FnLetterTake: what a letter can be taken of stays so with more behind it, its beginnings wait, and what is bad stays bad; program and reference agree. -/
import Derived.Test.YtannpeedfakhkaaDoorLtrY
import Derived.Test.YtannpeedfakhkaaDoorCards
import Derived.Test.YtannpeedfakhkaaDoorTie
import Derived.SevenTiedAt
namespace Go.Proofs.YtannpeedfakhkaaDoor
open Go.ChangeShapes Go.WideShapes Go.ChangeAt Go.RowKit
def ltake (s : ByteArray) (a : Addr) (l : Let) (n c : Nat) : Prop := ∀ w0 : World, 0 < w0.heap.size → w0.cell? ⟨0, 0, none⟩ = some (.iface 93 (.pointer (some a))) →
  Calls Tryd.prog 13 #[.string s] w0 fun e w' => e = .returned (.tuple #[.agg #[.string l.1, .string l.2], .int .i64 n, .int .i64 c]) ∧ Below w0.heap.size w0 w'
theorem ltake_of (s : ByteArray) (a : Addr) (hs : s.size ≤ 1073741824) : ltake s a (takeL s) (takeN s) (takeC s) := fun w0 h0 hE => implTake_any s a w0 (by omega) h0 hE
theorem takeL_text {s : ByteArray} (h : takeC s = 0) : ltText (takeL s) = s.extract 0 (takeN s) := by
  have := take_row s h
  unfold ltText
  rw [if_pos (take_let s h), ← this]; rfl
theorem take_zero {s : ByteArray} (h : takeC s ≠ 0) : takeN s = 0 ∧ takeL s = (bEmpty, bEmpty) ∧ (takeC s = 1 ∨ takeC s = 2) := by
  rcases take_cases s with ⟨a, b, c, _⟩ | ⟨a, b, c, _⟩ | ⟨a, _⟩
  · exact ⟨b, c, .inr a⟩
  · exact ⟨b, c, .inl a⟩
  · exact absurd a h
set_option maxRecDepth 100000 in
set_option maxHeartbeats 1000000 in
theorem lawTake (A A' : Option Addr) (bs bs' : List UInt8) (c c' : Nat) (hbc : bs.length ≤ c ∧ c ≤ maxLen) (hbc' : bs'.length ≤ c' ∧ c' ≤ maxLen) (a : Addr) (w : World) (hS : Sl encU 1 w A bs) (hS' : Sl encU 1 w A' bs') (h0 : 0 < w.heap.size) (hE : w.cell? ⟨0, 0, none⟩ = some (.iface 93 (.pointer (some a)))) :
    Calls Tryd.prog 10 #[.slice A bs.length c, .slice A' bs'.length c'] w fun e w' => e = .returned (.bool true) ∧ Below w.heap.size w w' := by
  have hmx : maxLen = 9223372036854775807 := by unfold maxLen; rfl
  by_cases hz : bs.length ≤ 1048576
  · have hz' : decide (1048576 < (bs.length : Int)) = false := by simp; omega
    have hbl : bs.length ≤ 9223372036854775807 := by omega
    have hbl' : bs'.length ≤ 9223372036854775807 := by omega
    by_cases hy : bs'.length ≤ 1048576
    · have hy' : decide (1048576 < (bs'.length : Int)) = false := by simp; omega
      have HD := Lib.hid (drawTake_any A bs c w hz hbc.1 hbc.2 hS)
      have HE := Lib.hid hE
      clear hS hE
      go_enter Tryd.func10, Tryd.ntmps10
      go_wp2_with fail
      refine HD.out.mono ?_
      rintro e w1 ⟨s, rfl, hs, hb1⟩
      have hs1 := hb1.size
      have HT := Lib.hid (ltake_of s a (by omega))
      have HSp := Lib.hid (fun w0 : World => specTake_any s w0 (by omega))
      have hnb : takeN s ≤ s.size := by
        by_cases hc : takeC s = 0
        · exact (takeN_bound s hc).2
        · rw [(take_zero hc).1]; omega
      have HBad := Lib.hid (fun t h => take_app_bad s t h)
      have HFine := Lib.hid (fun t h => take_app_fine s t h)
      have HPre := Lib.hid (fun k h hk => take_pre s k h hk)
      have HRow := Lib.hid (fun h => takeL_text (s := s) h)
      have HLet := Lib.hid (fun h => take_let s h)
      have HZ := Lib.hid (fun h => take_zero (s := s) h)
      generalize hl : takeL s = l at *
      generalize hn : takeN s = n at *
      generalize hc : takeC s = cc at *
      have HL := Lib.hid (⟨hl, hn, hc⟩ : _ ∧ _ ∧ _)
      clear hl hn hc
      go_wp2_with fail
      refine (HT.out w1 (by omega) (cell0 h0 HE.out hb1)).mono ?_
      rintro e w2 ⟨rfl, hb2⟩
      have hb12 := hb1.trans (hb2.mono (by omega))
      have hs2 := hb2.size
      go_wp2_with fail
      refine (HSp.out _).mono ?_
      rintro e w3 ⟨rfl, hb3⟩
      rw [HL.out.1, HL.out.2.1, HL.out.2.2]
      have hB1 := Blk.new w2 23 #[.string l.1, .string l.2]
      have hB3 := hB1.kept hb3
      have hb13 := (hb12.alloc (by omega) (.cells #[.string l.1, .string l.2] 23)).trans (hb3.mono (by simp; omega))
      have hb33 := hb13.alloc (by have := hb3.size; simp at this; omega) (.cells #[.string l.1, .string l.2] 23)
      have hB33 := hB3.alloc (.cells #[.string l.1, .string l.2] 23)
      have hs3 := hb3.size
      rw [World.size_alloc] at hs3
      have hsz : (w3.alloc (.cells #[.string l.1, .string l.2] 23)).heap.size = w3.heap.size + 1 := by simp
      have c0 : w3.cell? ⟨w2.heap.size, 0, none⟩ = some (.string l.1) := hB3.cell 0
      have c1 : w3.cell? ⟨w2.heap.size, 1, none⟩ = some (.string l.2) := hB3.cell 1
      have c0' : (w3.alloc (.cells #[.string l.1, .string l.2] 23)).cell? ⟨w2.heap.size, 0, none⟩ = some (.string l.1) := hB33.cell 0
      have c1' : (w3.alloc (.cells #[.string l.1, .string l.2] 23)).cell? ⟨w2.heap.size, 1, none⟩ = some (.string l.2) := hB33.cell 1
      clear hB1 hB3
      go_wp2_with fail
      generalize w3.alloc (.cells #[.string l.1, .string l.2] 23) = w4 at *
      refine (drawAll_any A' bs' c' w4 hy hbc'.1 hbc'.2 (hS'.below hb33)).mono ?_
      rintro e w5 ⟨t, rfl, ht, hb5⟩
      have hB5 := hB33.kept hb5
      have hb15 := hb33.trans (hb5.mono (by omega))
      have hs5 := hb5.size
      have hE5 := cell0 h0 HE.out hb15
      have hcat : ¬ (9223372036854775807 < s.size + t.size) := by omega
      have HT2 := Lib.hid (ltake_of (s ++ t) a (by rw [ByteArray.size_append]; omega))
      have HZ2 := Lib.hid (fun h => take_zero (s := s ++ t) h)
      have HBad2 := Lib.hid (HBad.out t)
      have HFine2 := Lib.hid (HFine.out t)
      clear HBad HFine
      generalize hl2 : takeL (s ++ t) = l2 at *
      generalize hn2 : takeN (s ++ t) = n2 at *
      generalize hc2 : takeC (s ++ t) = cc2 at *
      clear hl2 hn2 hc2
      go_wp2_with fail
      refine (HT2.out w5 (by omega) hE5).mono ?_
      rintro e w6 ⟨rfl, hb6⟩
      have hB6 := (hB5.kept hb6).alloc (.cells #[.string l2.1, .string l2.2] 23)
      have hb16 := (hb15.trans (hb6.mono (by omega))).alloc (by have := hb6.size; omega) (.cells #[.string l2.1, .string l2.2] 23)
      have hs6 := hb6.size
      have hsz6 : (w6.alloc (.cells #[.string l2.1, .string l2.2] 23)).heap.size = w6.heap.size + 1 := by simp
      have c0 : (w6.alloc (.cells #[.string l2.1, .string l2.2] 23)).cell? ⟨w2.heap.size, 0, none⟩ = some (.string l.1) := hB6.cell 0
      have c1 : (w6.alloc (.cells #[.string l2.1, .string l2.2] 23)).cell? ⟨w2.heap.size, 1, none⟩ = some (.string l.2) := hB6.cell 1
      by_cases k2 : cc = 2
      · subst k2
        obtain rfl := HBad2.out rfl
        obtain ⟨rfl, _, _⟩ := HZ.out (by decide)
        go_wp2
        go_ret
        exact ⟨rfl, hb16⟩
      · by_cases k0 : cc = 0
        · subst k0
          obtain ⟨rfl, gn, gl⟩ := HFine2.out rfl
          obtain rfl := gn.symm
          obtain rfl := gl.symm
          have hlet := HLet.out rfl
          have hsz1 := letB_sz hlet
          have HTX := Lib.hid (show ∀ w0 : World, Calls Tryd.prog 25 #[.agg #[.string l.1, .string l.2]] w0 fun e w' => e = .returned (.string (s.extract 0 n)) ∧ Below w0.heap.size w0 w' from
            fun w0 => by have := implText_any l w0 (by omega) (by omega); rw [HRow.out rfl] at this; exact this)
          have HPr := Lib.hid (fun k => HPre.out k rfl)
          clear hlet hsz1 k2 HRow HLet HZ HZ2 HBad2 HFine2 HPre
          have hgg := hB6.lt
          go_wp2
          generalize w6.alloc (.cells #[.string l.1, .string l.2] 23) = w7 at *
          go_loopw [16] (fun i wr => ∃ k : Nat, k ≤ n ∧ i = .int .i64 k ∧ Below w7.heap.size w7 wr) (fun i _ => n - (intOf i).toNat)
          case atStart => exact ⟨0, by omega, rfl, Below.refl _ _⟩
          case round =>
            obtain ⟨k, hk, rfl, hbr⟩ := hrel
            by_cases hlt : k < n
            · have HK := Lib.hid (show ∀ w0 : World, 0 < w0.heap.size → w0.cell? ⟨0, 0, none⟩ = some (.iface 93 (.pointer (some a))) →
                Calls Tryd.prog 13 #[.string (s.extract 0 k)] w0 fun e w' => e = .returned (.tuple #[.agg #[.string (takeL (s.extract 0 k)).1, .string (takeL (s.extract 0 k)).2], .int .i64 (takeN (s.extract 0 k)), .int .i64 1]) ∧ Below w0.heap.size w0 w' from
                fun w0 h0 hE => by have := ltake_of (s.extract 0 k) a (by simp; omega) w0 h0 hE; rw [HPr.out k hlt] at this; exact this)
              have hEr := cell0 h0 HE.out (hb16.trans (hbr.mono (by omega)))
              have hsr := hbr.size
              go_wp2_with fail
              refine (HK.out wr (by omega) hEr).mono ?_
              rintro e w8 ⟨rfl, hb8⟩
              have hbn := (hbr.trans (hb8.mono hsr)).alloc (by have := hb8.size; omega) (.cells #[.string (takeL (s.extract 0 k)).1, .string (takeL (s.extract 0 k)).2] 23)
              generalize takeL (s.extract 0 k) = l8 at *
              generalize takeN (s.extract 0 k) = n8 at *
              clear HK hEr
              go_wp2
              go_roundw
              case rel => exact ⟨k + 1, by omega, by go_num, hbn⟩
              case measure => simp [intOf]; omega
            · obtain rfl : k = n := by omega
              have hBr := hB6.kept hbr
              have c0 : wr.cell? ⟨w2.heap.size, 0, none⟩ = some (.string l.1) := hBr.cell 0
              have c1 : wr.cell? ⟨w2.heap.size, 1, none⟩ = some (.string l.2) := hBr.cell 1
              have hgr := hBr.lt
              have hb1r := hb16.trans (hbr.mono (by omega))
              have hsr := hbr.size
              have hnz : (0 : Int) ≤ (k : Int) := by omega
              have hnz2 : (k : Int) ≤ (s.size : Int) := by omega
              go_wp2_with fail
              refine wp_region_below (by kernel_rfl) (by kernel_rfl) ?_
              iterate 11 (refine wpQuiet_step (fun K hK => ?_); go_simp; first | (apply Exists.intro; refine ⟨fun W hW => ?_, hK _ ?_⟩; (first | rfl | (go_at_call 25; exact quiet_call hW (Nat.le_refl _) (HTX.out _)) | (have e0 := (hW.cell (p := ⟨w2.heap.size, 0, none⟩) hgr).trans c0; have e1 := (hW.cell (p := ⟨w2.heap.size, 1, none⟩) hgr).trans c1; go_simp; rfl)); clear hK K) | (refine hK _ ?_; clear hK K))
              refine wpQuiet_nil ?_
              intro W hW
              have hb2r := hb1r.trans (hW.mono (by omega))
              go_wp2
              go_ret
              exact ⟨rfl, hb2r⟩
        · obtain ⟨rfl, rfl, h12⟩ := HZ.out k0
          obtain rfl : cc = 1 := by omega
          go_wp2
          go_ret
          exact ⟨rfl, hb16⟩
    · have hy' : decide (1048576 < (bs'.length : Int)) = true := by simp; omega
      go_enter Tryd.func10, Tryd.ntmps10
      go_wp2
      go_ret
      exact ⟨rfl, Below.refl _ _⟩
  · have hz' : decide (1048576 < (bs.length : Int)) = true := by simp; omega
    go_enter Tryd.func10, Tryd.ntmps10
    go_wp2
    go_ret
    exact ⟨rfl, Below.refl _ _⟩
set_option maxRecDepth 100000 in
theorem fnLetterTake_lifted (os : Os) (started : os.Started) (H : Type) (enc : TypeId × Value → H) :
    ReturnsInHanded {} Tryd.checked os 10 .any (fun w args => (Rows.fnLetterTakeSpec.pre enc Tryd.prog Tryd.f10 [] false w args ∧ laidMetH Tryd.prog laidE w) ∧ sizedMet enc Tryd.prog Tryd.f10 (OpenSpec.ofChange Rows.fnLetterTakeSpec) false w args)
      (Rows.fnLetterTakeSpec.post enc Tryd.prog Tryd.f10 false true false false) := by
  refine returnsInHanded_of_change_and (C := Tryd.checked) (X := fun w _ => laidMetH Tryd.prog laidE w) (fun _ _ _ hh h => h.of_heap hh) own0 started (by kernel_rfl) Tryd.func10
    (ChangeSpec.witness_shaped (enc := enc) (C := Tryd.checked) (os := os) (X := fun w _ => laidMetH Tryd.prog laidE w) false (World.doorLaid Tryd.prog 400 os) #[.slice none 0 0, .slice none 0 0] 8 rfl (World.shaped_of_RefB (by kernel_rfl) (by kernel_rfl)) (by kernel_rfl) (by kernel_rfl) (by kernel_rfl) (door_met os _)) ?_
  intro W base args ds gs before hval0 hW _ _ hL _
  have hval : ∀ (j : Nat) t v, Tryd.f10.params[j]? = some t → args[j]? = some v → Value.okWide Tryd.prog W .any base t v := hval0
  have hW' := hW
  obtain ⟨p, q, hA0, hV, rfl, hfz, hnd⟩ := hW
  have hA : DataW.TrodAll enc Tryd.prog W 0 (fun _ => true) true Tryd.f10.params.toList args.toList ds p := hA0
  rw [Tryd.params10] at hA hval
  obtain ⟨v0, vs0, d0, ds0, p0, q0, hargs, rfl, rfl, h0, r0⟩ := trodAll_cons hA
  obtain ⟨v1, vs1, d1, ds1, p1, q1, rfl, rfl, rfl, h1, r1⟩ := trodAll_cons r0
  obtain ⟨rfl, rfl, rfl⟩ := trodAll_nil r1
  obtain rfl : args = #[v0, v1] := by cases args; simp_all
  have hV1 : DataW.TrodVars enc Tryd.prog W (fun _ => true) ["loop.example/engrosser/impl.errMalformed"] gs q := hV
  obtain ⟨g1, rfl⟩ : ∃ g1, gs = [g1] := by
    match gs, hV1 with
    | [g1], _ => exact ⟨g1, rfl⟩
    | [], h => exact h.elim
    | g1 :: g2 :: r, h => obtain ⟨_, _, _, _, _, _, _, _, _, _, hs, _⟩ := h; exact hs.elim
  obtain ⟨a, hE, h0W⟩ := err_cell hL
  have k0 := h0
  have lt0 : ∀ x ∈ p0, x.block < W.heap.size := by obtain ⟨m, hm⟩ := k0; exact DataW.trod_lt m _ _ _ hm
  obtain ⟨A0, bs0, c0, rfl, hb0, hR0⟩ := open_bytes (hval 0 33 v0 rfl rfl) h0
  have k1 := h1
  have lt1 : ∀ x ∈ p1, x.block < W.heap.size := by obtain ⟨m, hm⟩ := k1; exact DataW.trod_lt m _ _ _ hm
  obtain ⟨A1, bs1, c1, rfl, hb1, hR1⟩ := open_bytes (hval 1 33 v1 rfl rfl) h1
  clear hA0 hval0
  refine (lawTake A0 A1 bs0 bs1 c0 c1 hb0 hb1 a W hR0 hR1 h0W hE).mono fun e W' ⟨he, bel⟩ => ?_
  subst he
  exact ⟨_, rfl, _, _, _, [], _, _, hW', trodAll_mk1 (shut_bool Tryd.underlying4 _), (trodAll_cons_mk (Below.trod laidOut0 (by kernel_rfl) (of_decide_eq_true (by kernel_rfl)) k0 bel lt0) (trodAll_cons_mk (Below.trod laidOut0 (by kernel_rfl) (of_decide_eq_true (by kernel_rfl)) k1 bel lt1) trodAll_mk0)), Below.trodVars laidOut0 bel varsOk hV1, bel.frame _, fun h => by cases h⟩

theorem fnLetterTake_row : Rows.FnLetterTakeSaid :=
  OpenClaim.holds_of_wide 10 Tryd.f10 rfl rfl rfl rfl rfl rfl rfl ⟨rfl, rfl, rfl, rfl, rfl⟩ rfl rfl rfl rfl rfl (by kernel_rfl) Tryd.func10 (by kernel_rfl)
    (of_decide_eq_true (by kernel_rfl)) (by unfold Func.isWrapper; first | (rw [if_pos (by decide +kernel)]; kernel_rfl) | (rw [if_neg (by decide +kernel)]; exact ⟨rfl, rfl⟩))
    (fun os started H enc _ => fnLetterTake_lifted os started H enc)
theorem fnLetterTake_card : Rows.FnLetterTakeCardSaid :=
  Claim7.holds_tied_plain_at .later [] [.sentinel] true (true, "33431eb0f6bdfef61febccd31b5f655e64539fed7a117a58ed79ed3a3ffa2508") true
    fnLetterTake_row (fun _ h => by cases h) (by kernel_rfl) (fun _ h => by cases h) fnLetterTake_row_tie rfl ⟨rfl, rfl⟩ (by kernel_rfl) rfl
    (fun f fn hf hfn => by
      obtain rfl : f = 10 := Option.some.inj ((show Tryd.prog.funcNamed "loop.example/engrosser/laws.FnLetterTake" = some 10 by kernel_rfl).symm.trans hf) |>.symm
      obtain rfl : fn = Tryd.f10 := (Option.some.inj (Tryd.func10.symm.trans hfn)).symm
      exact ⟨by kernel_rfl, fun j t ht => by
        rw [Tryd.params10] at ht
        have h3 : t = 33 := by
          match j, ht with
          | 0, ht => simp at ht; simp [ht]
          | 1, ht => simp at ht; simp [ht]
          | j + 2, ht => simp at ht
        subst h3
        exact (show Tryd.prog.wantsStandIn 33 = false by kernel_rfl)⟩)
    (by kernel_rfl)
#print axioms fnLetterTake_card
end Go.Proofs.YtannpeedfakhkaaDoor
