/- FnLetterPieces: in whatever two pieces drawn bytes come, the letters are the same; program and reference agree. -/
import Derived.Test.YtannpeedfakhkaaDoorLtrY
import Derived.Test.YtannpeedfakhkaaDoorApp
import Derived.Test.YtannpeedfakhkaaDoorCards
import Derived.Test.YtannpeedfakhkaaDoorTie
import Derived.SevenTiedAt
namespace Go.Proofs.YtannpeedfakhkaaDoor
open Go.ChangeShapes Go.WideShapes Go.ChangeAt Go.RowKit
def PcPost (s : ByteArray) (k : Nat) : Prop :=
  (AC (s.extract 0 k) = 2 ∧ AC s = 2 ∧ AL s = AL (s.extract 0 k)) ∨
  (AC (s.extract 0 k) ≠ 2 ∧ (AR (s.extract 0 k) ++ s.extract k s.size).size ≤ 400 ∧ AC (AR (s.extract 0 k) ++ s.extract k s.size) = AC s ∧ AR (AR (s.extract 0 k) ++ s.extract k s.size) = AR s ∧
    AL s = AL (s.extract 0 k) ++ AL (AR (s.extract 0 k) ++ s.extract k s.size))
theorem pc_post (s : ByteArray) (k : Nat) (h4 : s.size ≤ 400) (hk : k ≤ s.size) : PcPost s k := by
  have e1 : (s.extract 0 k).size = k := by simp; omega
  have e2 : (s.extract k s.size).size = s.size - k := by simp
  obtain ⟨a1, a2, a3⟩ := AL_eq h4
  obtain ⟨b1, b2, b3⟩ := AL_eq (s := s.extract 0 k) (by omega)
  have hr := allR_le (s.extract 0 k)
  have e3 : (AR (s.extract 0 k) ++ s.extract k s.size).size ≤ 400 := by rw [b2, ByteArray.size_append]; omega
  obtain ⟨c1, c2, c3⟩ := AL_eq e3
  obtain ⟨d1, d2, d3⟩ := all_pieces s hk
  unfold PcPost
  by_cases h2 : allC (s.extract 0 k) = 2
  · obtain ⟨g1, g2⟩ := all_pieces_bad s hk h2
    left
    rw [a1, a3, b1, b3]; exact ⟨h2, g1, g2⟩
  · right
    refine ⟨by rw [b3]; exact h2, e3, ?_, ?_, ?_⟩
    · rw [c3, a3, b2]; exact d3.symm
    · rw [c2, a2, b2]; exact d2.symm
    · rw [c1, a1, b1, b2]; exact d1
set_option maxRecDepth 100000 in
set_option maxHeartbeats 1000000 in
theorem lawPieces (A A' : Option Addr) (bs bs' : List UInt8) (c c' : Nat) (hbc : bs.length ≤ c ∧ c ≤ maxLen) (hbc' : bs'.length ≤ c' ∧ c' ≤ maxLen) (a : Addr) (w : World) (hS : Sl encU 1 w A bs) (hS' : Sl encU 1 w A' bs') (h0 : 0 < w.heap.size) (hE : w.cell? ⟨0, 0, none⟩ = some (.iface 93 (.pointer (some a)))) :
    Calls Tryd.prog 9 #[.slice A bs.length c, .slice A' bs'.length c'] w fun e w' => e = .returned (.bool true) ∧ Below w.heap.size w w' := by
  have hmx : maxLen = 9223372036854775807 := by unfold maxLen; rfl
  by_cases hz : bs.length ≤ 1048576
  · have hz' : decide (1048576 < (bs.length : Int)) = false := by simp; omega
    have hbl : bs.length ≤ 9223372036854775807 := by omega
    have hbl' : bs'.length ≤ 9223372036854775807 := by omega
    by_cases hy : bs'.length ≤ 1048576
    · have hy' : decide (1048576 < (bs'.length : Int)) = false := by simp; omega
      have HD := Lib.hid (drawAll_any A bs c w hz hbc.1 hbc.2 hS)
      have HE := Lib.hid hE
      clear hS hE hS'
      go_enter Tryd.func9, Tryd.ntmps9
      go_wp2_with fail
      refine HD.out.mono ?_
      rintro e w1 ⟨s, rfl, hs, hb1⟩
      have hs1 := hb1.size
      have HIM := Lib.hid (fun (w0 : World) h0 hE => all_impl s a w0 (by omega) h0 hE)
      have HSP := Lib.hid (fun w0 : World => all_spec s w0 (by omega))
      have hL := AL_le s
      generalize hk : bs'.length % (s.size + 1) = k
      have hks : k ≤ s.size := by have := Nat.mod_lt bs'.length (show 0 < s.size + 1 by omega); omega
      have hkr : ((bs'.length : Int).tmod ((s.size : Int) + 1)) = (k : Int) := by rw [← hk, Int.tmod_eq_emod_of_nonneg (by omega), Int.natCast_emod]; rfl
      have hkr2 : ((bs'.length : Int) % ((s.size : Int) + 1)) = (k : Int) := by rw [← hk, Int.natCast_emod]; rfl
      have HPC := Lib.hid (fun h4 => pc_post s k h4 hks)
      have HI1 := Lib.hid (fun (w0 : World) h0 hE => all_impl (s.extract 0 k) a w0 (by simp; omega) h0 hE)
      have HI2 := Lib.hid (fun (h4 : (AR (s.extract 0 k) ++ s.extract k s.size).size ≤ 400) (w0 : World) h0 hE => all_impl (AR (s.extract 0 k) ++ s.extract k s.size) a w0 (Nat.le_trans h4 (by omega)) h0 hE)
      have hRk : (AR (s.extract 0 k)).size ≤ 2000 := by
        unfold AR; split
        · have := allR_le (s.extract 0 k); simp at this; omega
        · show 0 ≤ 2000; omega
      have hLk := AL_le (s.extract 0 k)
      have hLr := AL_le (AR (s.extract 0 k) ++ s.extract k s.size)
      clear hk
      unfold PcPost at HPC
      generalize AL s = L at *
      generalize AR s = R at *
      generalize AC s = C at *
      go_wp2_with fail
      refine (HIM.out w1 (by omega) (cell0 h0 HE.out hb1)).mono ?_
      rintro e w2 ⟨v2, rfl, ho2, hb2⟩
      obtain ⟨A2, c2, rfl, hl2, hm2, hR2⟩ := Sl.of_own encLet_len ho2
      have hs2 := hb2.size
      have hb12 := hb1.trans (hb2.mono (by omega))
      clear ho2
      go_wp2_with fail
      refine (HSP.out _).mono ?_
      rintro e w3 ⟨v3, rfl, ho3, hb3⟩
      obtain ⟨A3, c3, rfl, hl3, hm3, hR3⟩ := Sl.of_own encLet_len ho3
      have hs3 := hb3.size
      have hR23 := hR2.below hb3
      have hb13 := hb12.trans (hb3.mono (by omega))
      clear ho3 hR3 hR2
      by_cases h4 : s.size ≤ 400
      · have h4' : decide (400 < (s.size : Int)) = false := by simp; omega
        have hE3 := cell0 h0 HE.out hb13
        go_wp2_with fail
        refine (HI1.out w3 (by omega) hE3).mono ?_
        rintro e w4 ⟨v4, rfl, ho4, hb4⟩
        have ho4' := ho4
        obtain ⟨A4, c4, rfl, hl4, hm4, hR4⟩ := Sl.of_own encLet_len ho4
        have hs4 := hb4.size
        have hR24 := hR23.below hb4
        have hb14 := hb13.trans (hb4.mono (by omega))
        have hpc := HPC.out h4
        generalize AL (s.extract 0 k) = L1 at *
        generalize AC (s.extract 0 k) = C1 at *
        rcases hpc with ⟨rfl, rfl, rfl⟩ | ⟨hc2, h4r, rfl, rfl, hLL⟩
        · go_wp2_with fail
          refine (wp_same A4 A2 L c4 c2 w4 (by omega) hR4 hR24).mono ?_
          rintro e w5 ⟨rfl, hb5⟩
          have hb15 := hb14.trans (hb5.mono (by omega))
          go_wp2
          go_ret
          exact ⟨rfl, hb15⟩
        · have hc2' : ((C1 : Int) == 2) = false := by simp; omega
          have HI3 := Lib.hid (HI2.out h4r)
          have HLL := Lib.hid hLL
          clear hLL
          clear HI1 HI2 HIM HSP HPC hc2
          have hcat : ¬ (9223372036854775807 < (AR (s.extract 0 k)).size + (s.extract k s.size).size) := by simp; omega
          generalize AR (s.extract 0 k) = R1 at *
          have hE4 := cell0 h0 HE.out hb14
          have hks1 : (k : Int) ≤ (s.size : Int) := by omega
          have hks2 : (0 : Int) ≤ (k : Int) := by omega
          go_wp2_with fail
          refine (HI3.out w4 (by omega) hE4).mono ?_
          generalize R1 ++ s.extract k s.size = S2 at *
          rintro e w5 ⟨v5, rfl, ho5, hb5⟩
          obtain ⟨A5, c5, rfl, hl5, hm5, hR5⟩ := Sl.of_own encLet_len ho5
          have hs5 := hb5.size
          have hR25 := hR24.below hb5
          have hR45 := hR4.below hb5
          have hb15 := hb14.trans (hb5.mono (by omega))
          generalize AL S2 = L2 at *
          generalize AR S2 = R2 at *
          generalize AC S2 = C2 at *
          clear HI3
          obtain ⟨i0, hi, hz0, hz1, hz2⟩ := info_parts infoLet
          have HI := Lib.hid (⟨hi, hz0, hz1, hz2⟩ : _ ∧ _ ∧ _ ∧ _)
          clear hi hz0 hz1 hz2
          have o0 := own_of_blk (base := w5.heap.size) (n := 0) (k := 2) (xs := []) (Blk.new w5 23 #[]) (Nat.le_refl _) (Nat.zero_le _) rfl rfl
          have o4 := (own_kept ho4 hb5).alloc (.cells #[] 23)
          have o5 := ho5.alloc (.cells #[] 23)
          have f1 : ∀ (l : List Let), ∀ u ∈ l.flatMap encLet, u.oneCell' = true := by
            intro l u hu
            obtain ⟨x, _, hx⟩ := List.mem_flatMap.1 hu
            simp [encLet] at hx
            rcases hx with rfl | rfl <;> rfl
          have F1 := Lib.hid f1
          clear f1
          have hb56 := (Below.refl w5.heap.size w5).alloc (Nat.le_refl _) (.cells #[] 23)
          have hne5 : (Value.slice A5 L2.length c5).ownBlock = none ∨ (Value.slice A5 L2.length c5).ownBlock ≠ some w5.heap.size := by
            cases hv : (Value.slice A5 L2.length c5).ownBlock with
            | none => exact .inl rfl
            | some j => exact .inr (by have := (ho5.lt j hv).2; intro he; injection he; omega)
          have HNE := Lib.hid hne5
          have HR25 := Lib.hid hR25
          have O0 := Lib.hid o0
          have O4 := Lib.hid o4
          have O5 := Lib.hid o5
          clear o0 o4 o5 ho4 ho5 hR25 hR45 hR4 hR5 hne5
          go_wp2_with (at_builtin; refine wpList_append_row (wanted_of (b := true) rfl rfl rfl rfl) (.tmp 94) (.tmp 95) 28 rfl w5.heap.size 23 i0 _ 2 32 Tryd.underlying28 HI.out.1 HI.out.2.1 HI.out.2.2.1 HI.out.2.2.2 rfl (by decide) (.slice (some ⟨w5.heap.size, 0, none⟩) 0 0) 0 [] rfl O0.out w3.heap.size (.slice A4 L1.length c4) L1.length (L1.flatMap encLet) rfl O4.out (F1.out _) ?c3 ?c4 ?c5 ?_)
          case c3 => unfold maxLen; omega
          case c4 => omega
          case c5 => simp
          intro v6 w6 ho6 hg6
          have o5 := O5.out.kept hg6 HNE.out
          have hb57 := below_own hb56 hg6 (by simp) (fun k hk => by simp [Value.ownBlock] at hk; omega)
          have hs6 := hg6.size
          rw [World.size_alloc] at hs6
          have HO6 := Lib.hid ho6
          have O56 := Lib.hid o5
          clear ho6 o5 hg6
          go_wp2_with (at_builtin; refine wpList_append_row (wanted_of (b := true) rfl rfl rfl rfl) (.tmp 96) (.tmp 97) 28 rfl w5.heap.size 23 i0 _ 2 32 Tryd.underlying28 HI.out.1 HI.out.2.1 HI.out.2.2.1 HI.out.2.2.2 rfl (by decide) v6 L1.length (L1.flatMap encLet) rfl HO6.out w4.heap.size (.slice A5 L2.length c5) L2.length (L2.flatMap encLet) rfl O56.out (F1.out _) ?c3 ?c4 ?c5 ?_)
          case c3 => unfold maxLen; omega
          case c4 => omega
          case c5 => omega
          intro v7 w7 ho7 hg7
          have hb58 := below_own hb57 hg7 (by omega) (fun k hk => (HO6.out.lt k hk).1)
          rw [← List.flatMap_append, ← List.length_append, ← HLL.out] at ho7
          obtain ⟨A7, c7, rfl, hl7, hm7, hR7⟩ := Sl.of_own encLet_len ho7
          have hR27 := HR25.out.mono (Nat.le_refl _) hb58
          have hs7 := hg7.size
          have hb17 := hb15.trans (hb58.mono (by omega))
          clear ho7 hg7 HR25 HO6 O56
          go_wp2_with fail
          refine (wp_same A7 A2 L c7 c2 w7 (by omega) hR7 hR27).mono ?_
          rintro e w8 ⟨rfl, hb8⟩
          have hb18 := hb17.trans (hb8.mono (by omega))
          go_wp2
          go_ret
          exact ⟨rfl, hb18⟩
      · have h4' : decide (400 < (s.size : Int)) = true := by simp; omega
        go_wp2
        go_ret
        exact ⟨rfl, hb13⟩
    · have hy' : decide (1048576 < (bs'.length : Int)) = true := by simp; omega
      go_enter Tryd.func9, Tryd.ntmps9
      go_wp2
      go_ret
      exact ⟨rfl, Below.refl _ _⟩
  · have hz' : decide (1048576 < (bs.length : Int)) = true := by simp; omega
    go_enter Tryd.func9, Tryd.ntmps9
    go_wp2
    go_ret
    exact ⟨rfl, Below.refl _ _⟩
set_option maxRecDepth 100000 in
theorem fnLetterPieces_lifted (os : Os) (started : os.Started) (H : Type) (enc : TypeId × Value → H) :
    ReturnsInHanded {} Tryd.checked os 9 .any (fun w args => (Rows.fnLetterPiecesSpec.pre enc Tryd.prog Tryd.f9 [] false w args ∧ laidMetH Tryd.prog laidE w) ∧ sizedMet enc Tryd.prog Tryd.f9 (OpenSpec.ofChange Rows.fnLetterPiecesSpec) false w args)
      (Rows.fnLetterPiecesSpec.post enc Tryd.prog Tryd.f9 false true false false) := by
  refine returnsInHanded_of_change_and (C := Tryd.checked) (X := fun w _ => laidMetH Tryd.prog laidE w) (fun _ _ _ hh h => h.of_heap hh) own0 started (by kernel_rfl) Tryd.func9
    (ChangeSpec.witness_shaped (enc := enc) (C := Tryd.checked) (os := os) (X := fun w _ => laidMetH Tryd.prog laidE w) false (World.doorLaid Tryd.prog 400 os) #[.slice none 0 0, .slice none 0 0] 8 rfl (World.shaped_of_RefB (by kernel_rfl) (by kernel_rfl)) (by kernel_rfl) (by kernel_rfl) (by kernel_rfl) (door_met os _)) ?_
  intro W base args ds gs before hval0 hW _ _ hL _
  have hval : ∀ (j : Nat) t v, Tryd.f9.params[j]? = some t → args[j]? = some v → Value.okWide Tryd.prog W .any base t v := hval0
  have hW' := hW
  obtain ⟨p, q, hA0, hV, rfl, hfz, hnd⟩ := hW
  have hA : DataW.TrodAll enc Tryd.prog W 0 (fun _ => true) true Tryd.f9.params.toList args.toList ds p := hA0
  rw [Tryd.params9] at hA hval
  obtain ⟨v0, vs0, d0, ds0, p0, q0, hargs, rfl, rfl, h0, r0⟩ := trodAll_cons hA
  obtain ⟨v1, vs1, d1, ds1, p1, q1, rfl, rfl, rfl, h1, r1⟩ := trodAll_cons r0
  obtain ⟨rfl, rfl, rfl⟩ := trodAll_nil r1
  obtain rfl : args = #[v0, v1] := by cases args; simp_all
  have hV1 : DataW.TrodVars enc Tryd.prog W (fun _ => true) ["loop.example/engrosser/impl.errMalformed"] gs q := hV
  obtain ⟨g1, rfl⟩ : ∃ g1, gs = [g1] := by
    match gs, hV1 with
    | [g1], _ => exact ⟨g1, rfl⟩
    | [], h => exact h.elim
    | g1 :: g2 :: r, h => obtain ⟨_, _, _, _, _, _, _, _, _, _, hs, _⟩ := h; exact hs.elim
  obtain ⟨a, hE, h0W⟩ := err_cell hL
  have k0 := h0
  have lt0 : ∀ x ∈ p0, x.block < W.heap.size := by obtain ⟨m, hm⟩ := k0; exact DataW.trod_lt m _ _ _ hm
  obtain ⟨A0, bs0, c0, rfl, hb0, hR0⟩ := open_bytes (hval 0 33 v0 rfl rfl) h0
  have k1 := h1
  have lt1 : ∀ x ∈ p1, x.block < W.heap.size := by obtain ⟨m, hm⟩ := k1; exact DataW.trod_lt m _ _ _ hm
  obtain ⟨A1, bs1, c1, rfl, hb1, hR1⟩ := open_bytes (hval 1 33 v1 rfl rfl) h1
  clear hA0 hval0
  refine (lawPieces A0 A1 bs0 bs1 c0 c1 hb0 hb1 a W hR0 hR1 h0W hE).mono fun e W' ⟨he, bel⟩ => ?_
  subst he
  exact ⟨_, rfl, _, _, _, [], _, _, hW', trodAll_mk1 (shut_bool Tryd.underlying4 _), (trodAll_cons_mk (Below.trod laidOut0 (by kernel_rfl) (of_decide_eq_true (by kernel_rfl)) k0 bel lt0) (trodAll_cons_mk (Below.trod laidOut0 (by kernel_rfl) (of_decide_eq_true (by kernel_rfl)) k1 bel lt1) trodAll_mk0)), Below.trodVars laidOut0 bel varsOk hV1, bel.frame _, fun h => by cases h⟩

theorem fnLetterPieces_row : Rows.FnLetterPiecesSaid :=
  OpenClaim.holds_of_wide 9 Tryd.f9 rfl rfl rfl rfl rfl rfl rfl ⟨rfl, rfl, rfl, rfl, rfl⟩ rfl rfl rfl rfl rfl (by kernel_rfl) Tryd.func9 (by kernel_rfl)
    (of_decide_eq_true (by kernel_rfl)) (by unfold Func.isWrapper; first | (rw [if_pos (by decide +kernel)]; kernel_rfl) | (rw [if_neg (by decide +kernel)]; exact ⟨rfl, rfl⟩))
    (fun os started H enc _ => fnLetterPieces_lifted os started H enc)
theorem fnLetterPieces_card : Rows.FnLetterPiecesCardSaid :=
  Claim7.holds_tied_plain_at .later [] [.sentinel] true (true, "33431eb0f6bdfef61febccd31b5f655e64539fed7a117a58ed79ed3a3ffa2508") true
    fnLetterPieces_row (fun _ h => by cases h) (by kernel_rfl) (fun _ h => by cases h) fnLetterPieces_row_tie rfl ⟨rfl, rfl⟩ (by kernel_rfl) rfl
    (fun f fn hf hfn => by
      obtain rfl : f = 9 := Option.some.inj ((show Tryd.prog.funcNamed "loop.example/engrosser/laws.FnLetterPieces" = some 9 by kernel_rfl).symm.trans hf) |>.symm
      obtain rfl : fn = Tryd.f9 := (Option.some.inj (Tryd.func9.symm.trans hfn)).symm
      exact ⟨by kernel_rfl, fun j t ht => by
        rw [Tryd.params9] at ht
        have h3 : t = 33 := by
          match j, ht with
          | 0, ht => simp at ht; simp [ht]
          | 1, ht => simp at ht; simp [ht]
          | j + 2, ht => simp at ht
        subst h3
        exact (show Tryd.prog.wantsStandIn 33 = false by kernel_rfl)⟩)
    (by kernel_rfl)
#print axioms fnLetterPieces_card
end Go.Proofs.YtannpeedfakhkaaDoor
