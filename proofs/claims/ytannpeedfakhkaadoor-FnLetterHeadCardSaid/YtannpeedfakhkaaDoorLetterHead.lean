/- FnLetterHead: what LetterTake takes has the length that its head tells. -/
import Derived.Test.YtannpeedfakhkaaDoorLtrP
import Derived.Test.YtannpeedfakhkaaDoorBytes
import Derived.Test.YtannpeedfakhkaaDoorLetEq
import Derived.Test.YtannpeedfakhkaaDoorDoor
import Derived.Test.YtannpeedfakhkaaDoorCards
import Derived.Test.YtannpeedfakhkaaDoorTie
import Derived.SevenTiedAt
namespace Go.Proofs.YtannpeedfakhkaaDoor
open Go.ChangeShapes Go.WideShapes Go.ChangeAt Go.RowKit
theorem measFrom_told (s : ByteArray) : ∀ f i, i + f ≤ s.size → (∀ j, j < i → okAt s j = true) → (measFrom s f i).1 ≠ 0 → (measFrom s f i).2 = false →
    3 ≤ (measFrom s f i).1 ∧ ((measFrom s f i).1 : Int) = 3 + szAt s 3 ∧ (∀ j, j < 3 → okAt s j = true)
  | 0, _, _, _, h, _ => absurd rfl h
  | f + 1, i, hi, hok, h, h2 => by
    unfold measFrom at h h2 ⊢
    by_cases h1 : okAt s i = false
    · rw [if_pos h1] at h; exact absurd rfl h
    · rw [if_neg h1] at h h2 ⊢
      have hok' : ∀ j, j < i + 1 → okAt s j = true := fun j hj => by
        by_cases hji : j < i
        · exact hok j hji
        · obtain rfl : j = i := by omega
          simpa using h1
      by_cases h3 : fullB (i + 1) (szAt s (i + 1)) = true
      · rw [if_pos h3] at h h2 ⊢
        unfold fullB at h3
        simp at h3
        have e := szAt_ge s (i + 1) (by omega)
        refine ⟨by simp only; omega, by simp only; omega, fun j hj => hok' j (by omega)⟩
      · rw [if_neg h3] at h h2 ⊢
        exact measFrom_told s f (i + 1) (by omega) hok' h h2
theorem take_head (s : ByteArray) (h : takeC s = 0) : 3 ≤ s.size ∧ 3 ≤ takeN s ∧ takeN s ≤ 43 ∧ (48 ≤ byt s 1 ∧ byt s 1 ≤ 57) ∧ (48 ≤ byt s 2 ∧ byt s 2 ≤ 57) ∧ (byt s 1 - 48) * 10 + (byt s 2 - 48) = (takeN s : Int) - 3 ∧ takeL s = (s.extract 0 1, s.extract 3 (takeN s)) := by
  have hb := takeN_bound s h
  have hm : (meas s).2 = false ∧ (meas s).1 ≠ 0 := by
    unfold takeC at h
    split at h
    · omega
    · rename_i h2
      split at h
      · omega
      · rename_i h1; exact ⟨by simpa using h2, h1⟩
  have hn : takeN s = (meas s).1 := by unfold takeN; rw [if_neg (by simp [hm.1])]
  obtain ⟨h3, h4, h5⟩ := measFrom_told s s.size 0 (by omega) (fun j hj => absurd hj (by omega)) hm.2 hm.1
  have h4' : (takeN s : Int) = 3 + szAt s 3 := by rw [hn]; exact h4
  have o1 := h5 1 (by omega)
  have o2 := h5 2 (by omega)
  rw [okAt_1] at o1
  rw [okAt_2] at o2
  simp only [Bool.and_eq_true, decide_eq_true_eq] at o1 o2
  have d1 := digB_yes o1.1
  have d2 := digB_yes o2.1
  have e := szAt_3 s
  exact ⟨by omega, by omega, by omega, d1, d2, by omega, by unfold takeL; rw [if_pos h]⟩
theorem ifp {c : Prop} [Decidable c] {a b : Prop} (h : c) (ha : a) : if c then a else b := by rw [if_pos h]; exact ha
set_option maxRecDepth 100000 in
set_option maxHeartbeats 1000000 in
theorem lawHead (A : Option Addr) (bs : List UInt8) (c : Nat) (hbc : bs.length ≤ c ∧ c ≤ maxLen) (a : Addr) (w : World) (hS : Sl encU 1 w A bs) (h0 : 0 < w.heap.size) (hE : w.cell? ⟨0, 0, none⟩ = some (.iface 93 (.pointer (some a)))) :
    Calls Tryd.prog 5 #[.slice A bs.length c] w fun e w' => e = .returned (.bool true) ∧ Below w.heap.size w w' := by
  have hmx : maxLen = 9223372036854775807 := by unfold maxLen; rfl
  by_cases hz : bs.length ≤ 1048576
  · have hz' : decide (1048576 < (bs.length : Int)) = false := by simp; omega
    have HD := Lib.hid (drawTake_any A bs c w hz hbc.1 hbc.2 hS)
    have hbl : bs.length ≤ 9223372036854775807 := by omega
    clear hS hbc
    go_enter Tryd.func5, Tryd.ntmps5
    go_wp2_with fail
    refine HD.out.mono ?_
    rintro e w1 ⟨s, rfl, hs, hb1⟩
    have hE1 := (hb1.cell (p := ⟨0, 0, none⟩) h0).trans hE
    have hs1 := hb1.size
    go_wp2_with fail
    refine (implTake_any s a w1 (by omega) (by omega) hE1).mono ?_
    rintro e w2 ⟨rfl, hb2⟩
    have hb12 := hb1.trans (hb2.mono hs1)
    have hs2 := hb2.size
    have HT := Lib.hid (take_head s)
    have HSp := Lib.hid (fun w0 : World => specTake_any s w0 (by omega))
    generalize hl : takeL s = l at *
    generalize hn : takeN s = n at *
    generalize hc : takeC s = cc at *
    have HL := Lib.hid (⟨hl, hn, hc⟩ : _ ∧ _ ∧ _)
    clear hl hn hc
    go_wp2_with fail
    refine (HSp.out _).mono ?_
    rintro e w3 ⟨rfl, hb3⟩
    rw [HL.out.1, HL.out.2.1, HL.out.2.2]
    have hB1 := (Blk.new w2 23 #[.string l.1, .string l.2]).below hb3 (by simp)
    have c0 : w3.cell? ⟨w2.heap.size, 0, none⟩ = some (.string l.1) := hB1.cell 0
    have c1 : w3.cell? ⟨w2.heap.size, 1, none⟩ = some (.string l.2) := hB1.cell 1
    have hlt := hB1.lt
    have hb13 := (hb12.alloc (Nat.le_trans hs1 hs2) (.cells #[.string l.1, .string l.2] 23)).trans (hb3.mono (by simp; omega))
    have hb14 := hb13.alloc (by omega) (.cells #[.string l.1, .string l.2] 23)
    by_cases hC : cc = 0
    · subst hC
      obtain ⟨t1, t2, t3, t4, t5, t6, rfl⟩ := HT.out rfl
      clear HT
      have hB2 := hB1.alloc (.cells #[.string (s.extract 0 1), .string (s.extract 3 n)] 23)
      have e0 : (w3.alloc (.cells #[.string (s.extract 0 1), .string (s.extract 3 n)] 23)).cell? ⟨w2.heap.size, 0, none⟩ = some (.string (s.extract 0 1)) := hB2.cell 0
      have e1 := hB2.lt
      have hs1' : 1 ≤ s.size := by omega
      go_wp2
      generalize w3.alloc (.cells #[.string (s.extract 0 1), .string (s.extract 3 n)] 23) = w4 at *
      have l1 : 1 < s.size := by omega
      have l2 : 2 < s.size := by omega
      have i1 : (1 : Int) < s.size := by omega
      have i2 : (2 : Int) < s.size := by omega
      have i3 : (1 : Int) ≤ s.size := by omega
      have b1 := byt_eq s 1 l1
      have b2 := byt_eq s 2 l2
      have g1 : decide ((3 : Int) ≤ (n : Int)) = true := by simp; omega
      have g2 : decide ((n : Int) ≤ 43) = true := by simp; omega
      have q1 := IntWalk.u8_in (((s[1]'l1).toNat : Int) - 48) (by omega)
      have q2 := IntWalk.u8_in (((s[2]'l2).toNat : Int) - 48) (by omega)
      have q3 := IntWalk.i64_in (((s[1]'l1).toNat : Int) - 48) (by omega)
      have q4 := IntWalk.i64_in (((s[2]'l2).toNat : Int) - 48) (by omega)
      have q5 := IntWalk.i64_in ((((s[1]'l1).toNat : Int) - 48) * 10) (by omega)
      have q6 := IntWalk.i64_in ((((s[1]'l1).toNat : Int) - 48) * 10 + (((s[2]'l2).toNat : Int) - 48)) (by omega)
      have q7 := IntWalk.i64_in ((n : Int) - 3) (by omega)
      have q8 : IntKind.i64.wrap ((((s[1]'l1).toNat : Int) - 48) * 10 + (((s[2]'l2).toNat : Int) - 48)) = (n : Int) - 3 := by rw [q6]; omega
      clear q6
      clear b1 b2 t4 t5 t6 c0 c1 hB1 hB2 hb3 hb13
      refine wp_region_below (by kernel_rfl) (by kernel_rfl) ?_
      iterate 29 (refine wpQuiet_step (fun K hK => ?_); go_simp; (try refine ifp (by exact q8) ?_); first | (apply Exists.intro; refine ⟨fun W hW => ?_, hK _ ?_⟩; (first | rfl | (have f0 := (hW.cell (p := ⟨w2.heap.size, 0, none⟩) e1).trans e0; go_simp; rfl)); clear hK K) | (refine hK _ ?_; clear hK K))
      refine wpQuiet_nil ?_
      intro W hW
      have hb15 := hb14.trans (hW.mono hb14.size)
      go_wp2
      go_ret
      exact ⟨ret_bool (beq_iff_eq.2 q8), hb15⟩
    · have hC' : ((cc : Int) != 0) = true := by simpa using hC
      go_wp2
      go_ret
      exact ⟨rfl, hb14⟩
  · have hz' : decide (1048576 < (bs.length : Int)) = true := by simp; omega
    go_enter Tryd.func5, Tryd.ntmps5
    go_wp2
    go_ret
    exact ⟨rfl, Below.refl _ _⟩
set_option maxRecDepth 100000 in
theorem fnLetterHead_lifted (os : Os) (started : os.Started) (H : Type) (enc : TypeId × Value → H) :
    ReturnsInHanded {} Tryd.checked os 5 .any (fun w args => (Rows.fnLetterHeadSpec.pre enc Tryd.prog Tryd.f5 [] false w args ∧ laidMetH Tryd.prog laidE w) ∧ sizedMet enc Tryd.prog Tryd.f5 (OpenSpec.ofChange Rows.fnLetterHeadSpec) false w args)
      (Rows.fnLetterHeadSpec.post enc Tryd.prog Tryd.f5 false true false false) := by
  refine returnsInHanded_of_change_and (C := Tryd.checked) (X := fun w _ => laidMetH Tryd.prog laidE w) (fun _ _ _ hh h => h.of_heap hh) own0 started (by kernel_rfl) Tryd.func5
    (ChangeSpec.witness_shaped (enc := enc) (C := Tryd.checked) (os := os) (X := fun w _ => laidMetH Tryd.prog laidE w) false (World.doorLaid Tryd.prog 400 os) #[.slice none 0 0] 8 rfl (World.shaped_of_RefB (by kernel_rfl) (by kernel_rfl)) (by kernel_rfl) (by kernel_rfl) (by kernel_rfl) (door_met os _)) ?_
  intro W base args ds gs before hval0 hW _ _ hL _
  have hval : ∀ (j : Nat) t v, Tryd.f5.params[j]? = some t → args[j]? = some v → Value.okWide Tryd.prog W .any base t v := hval0
  have hW' := hW
  obtain ⟨p, q, hA0, hV, rfl, hfz, hnd⟩ := hW
  have hA : DataW.TrodAll enc Tryd.prog W 0 (fun _ => true) true Tryd.f5.params.toList args.toList ds p := hA0
  rw [Tryd.params5] at hA hval
  obtain ⟨v0, vs0, d0, ds0, p0, q0, hargs, rfl, rfl, h0, r0⟩ := trodAll_cons hA
  obtain ⟨rfl, rfl, rfl⟩ := trodAll_nil r0
  obtain rfl : args = #[v0] := by cases args; simp_all
  have hV1 : DataW.TrodVars enc Tryd.prog W (fun _ => true) ["loop.example/engrosser/impl.errMalformed"] gs q := hV
  obtain ⟨g1, rfl⟩ : ∃ g1, gs = [g1] := by
    match gs, hV1 with
    | [g1], _ => exact ⟨g1, rfl⟩
    | [], h => exact h.elim
    | g1 :: g2 :: r, h => obtain ⟨_, _, _, _, _, _, _, _, _, _, hs, _⟩ := h; exact hs.elim
  obtain ⟨a, hE, h0W⟩ := err_cell hL
  have k0 := h0
  have lt0 : ∀ x ∈ p0, x.block < W.heap.size := by obtain ⟨m, hm⟩ := k0; exact DataW.trod_lt m _ _ _ hm
  obtain ⟨A0, bs0, c0, rfl, hb0, hR0⟩ := open_bytes (hval 0 33 v0 rfl rfl) h0
  clear hA0 hval0
  refine (lawHead A0 bs0 c0 hb0 a W hR0 h0W hE).mono fun e W' ⟨he, bel⟩ => ?_
  subst he
  exact ⟨_, rfl, _, _, _, [], _, _, hW', trodAll_mk1 (shut_bool Tryd.underlying4 _), (trodAll_cons_mk (Below.trod laidOut0 (by kernel_rfl) (of_decide_eq_true (by kernel_rfl)) k0 bel lt0) trodAll_mk0), Below.trodVars laidOut0 bel varsOk hV1, bel.frame _, fun h => by cases h⟩

theorem fnLetterHead_row : Rows.FnLetterHeadSaid :=
  OpenClaim.holds_of_wide 5 Tryd.f5 rfl rfl rfl rfl rfl rfl rfl ⟨rfl, rfl, rfl, rfl, rfl⟩ rfl rfl rfl rfl rfl (by kernel_rfl) Tryd.func5 (by kernel_rfl)
    (of_decide_eq_true (by kernel_rfl)) (by unfold Func.isWrapper; first | (rw [if_pos (by decide +kernel)]; kernel_rfl) | (rw [if_neg (by decide +kernel)]; exact ⟨rfl, rfl⟩))
    (fun os started H enc _ => fnLetterHead_lifted os started H enc)
theorem fnLetterHead_card : Rows.FnLetterHeadCardSaid :=
  Claim7.holds_tied_plain_at .later [] [.sentinel] true (true, "33431eb0f6bdfef61febccd31b5f655e64539fed7a117a58ed79ed3a3ffa2508") true
    fnLetterHead_row (fun _ h => by cases h) (by kernel_rfl) (fun _ h => by cases h) fnLetterHead_row_tie rfl ⟨rfl, rfl⟩ (by kernel_rfl) rfl
    (fun f fn hf hfn => by
      obtain rfl : f = 5 := Option.some.inj ((show Tryd.prog.funcNamed "loop.example/engrosser/laws.FnLetterHead" = some 5 by kernel_rfl).symm.trans hf) |>.symm
      obtain rfl : fn = Tryd.f5 := (Option.some.inj (Tryd.func5.symm.trans hfn)).symm
      exact ⟨by kernel_rfl, fun j t ht => by
        rw [Tryd.params5] at ht
        have h3 : t = 33 := by
          match j, ht with
          | 0, ht => simp at ht; simp [ht]
          | j + 1, ht => simp at ht
        subst h3
        exact (show Tryd.prog.wantsStandIn 33 = false by kernel_rfl)⟩)
    (by kernel_rfl)
#print axioms fnLetterHead_card
end Go.Proofs.YtannpeedfakhkaaDoor
