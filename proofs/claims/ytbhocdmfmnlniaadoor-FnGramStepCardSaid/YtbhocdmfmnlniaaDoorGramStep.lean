/- FnGramStep: the grammar has one way to end. For every code: no condition; the listed variables are tied to the program's text. -/
import Derived.Test.YtbhocdmfmnlniaaDoorGrmI
import Derived.Test.YtbhocdmfmnlniaaDoorGrmL
import Derived.Test.YtbhocdmfmnlniaaDoorDoorG
import Derived.Test.YtbhocdmfmnlniaaDoorCards
import Derived.Test.YtbhocdmfmnlniaaDoorTie
import Derived.SevenTiedAt
namespace Go.Proofs.YtbhocdmfmnlniaaDoor
open Go.ChangeShapes Go.WideShapes Go.ChangeAt Go.RowKit
theorem stL_le : ∀ x ∈ stL, -1 ≤ x ∧ x ≤ 4 := by decide
theorem step_out {st : Int} {x : Let} (h : st = 2 ∨ st = 3) : stepG st x = 3 := stepG_out (by omega) (by omega) x
theorem step_one {x : Let} : stepG 1 x = 3 ∨ (x.1.toList = [82] ∧ stepG 1 x = 1) ∨ (x.1.toList = [67] ∧ stepG 1 x = 0) := by
  unfold stepG
  split
  · rw [if_neg (by decide), if_pos rfl]
    unfold rowsS
    split
    · rename_i h; simp at h; exact .inr (.inl ⟨h.1, rfl⟩)
    · split
      · rename_i h; simp at h; exact .inr (.inr ⟨h.1, rfl⟩)
      · exact .inl rfl
  · exact .inl rfl
theorem idle_two {x : Let} (h : idleS x = 2) : x.1.toList = [66] := by
  unfold idleS at h
  split at h
  · split at h
    · split at h <;> omega
    · split at h
      · split at h <;> omega
      · split at h
        · split at h <;> omega
        · split at h
          · rename_i h2; simpa using h2
          · omega
  · rcases rowsS_cases x with h2 | h2 | h2 <;> omega
theorem step_two {st : Int} {x : Let} (h : stepG st x = 2) : x.1.toList = [66] := by
  unfold stepG at h
  split at h
  · split at h
    · exact idle_two h
    · split at h
      · rcases rowsS_cases x with h2 | h2 | h2 <;> omega
      · omega
  · omega
set_option maxRecDepth 100000 in
set_option maxHeartbeats 1000000 in
theorem drawStep_any (A : Option Addr) (bs : List UInt8) (c : Nat) (w : World) (hn : bs.length ≤ 1048576) (hc : bs.length ≤ c) (hm : c ≤ maxLen) (hS : Sl encU 1 w A bs) :
    Calls Tryd.prog 16 #[.slice A bs.length c] w fun e w' => ∃ (st : Int) (x : Let), e = .returned (.tuple #[.int .i64 st, .agg #[.string x.1, .string x.2]]) ∧ -1 ≤ st ∧ st ≤ 4 ∧ x.1.size ≤ 2 ∧ x.2.size ≤ 900 ∧ Below w.heap.size w w' := by
  have hb0 := (Below.refl w.heap.size w).alloc (Nat.le_refl _) (.cells #[.string ⟨#[]⟩, .string ⟨#[]⟩] 26)
  have hB := Blk.new w 26 #[.string ⟨#[]⟩, .string ⟨#[]⟩]
  have hS0 := hS.below hb0
  have hsz : (w.alloc (.cells #[.string ⟨#[]⟩, .string ⟨#[]⟩] 26)).heap.size = w.heap.size + 1 := by simp
  go_enter Tryd.func16, Tryd.ntmps16
  go_wp2_with fail
  generalize w.alloc (.cells #[.string ⟨#[]⟩, .string ⟨#[]⟩] 26) = w0 at *
  refine (open_any A bs c w0 hn hc hm hS0).mono ?_
  rintro e w1 ⟨bs', c', g, rfl, hR1, hb1⟩
  have hB1 := hB.kept hb1
  have hb01 := hb0.trans (hb1.mono (by omega))
  have hs1 := hb1.size
  have hg0 := hR1.2.2.1
  have hgl := hR1.1.lt
  clear hB hb1 hS hS0
  go_wp2_with fail
  have S := Sl.litI w1 3 stL #[.int .i64 0, .int .i64 0, .int .i64 0, .int .i64 1, .int .i64 1, .int .i64 2, .int .i64 3, .int .i64 (-1), .int .i64 4] rfl
  refine (num_any w0 A bs' c' g 0 (some ⟨w1.heap.size, 0, none⟩) stL 9 _ (hR1.alloc _) (by omega) (by decide) S (by intro b o h; simp at h; omega)).mono ?_
  rintro e w2 ⟨st, hst, rfl, hR2, hG2⟩
  have hst' := stL_le st hst
  have hB2 := (hB1.alloc _).grown hG2 (by simp; omega)
  have hs2 := hG2.size
  rw [World.size_alloc] at hs2
  have hb02 := below_own (hb01.alloc hb01.size _) hG2 (by simp; omega) (by intro k hk; simp at hk; omega)
  clear S hst hB1 hb01 hG2 hR1
  go_wp2_with fail
  refine (told_any w0 A bs' c' g 1 _ hR2 (by omega)).mono ?_
  rintro e w3 ⟨x, q, rfl, hx1, hx2, hq, hR3, hG3⟩
  have hB3 := hB2.grown hG3 (by simp; omega)
  have hb03 := below_own hb02 hG3 (by omega) (by intro k hk; simp at hk; omega)
  have b0 : w3.cell? ⟨w.heap.size, 0, none⟩ = some (.string ⟨#[]⟩) := hB3.cell 0
  have b1 : w3.cell? ⟨w.heap.size, 1, none⟩ = some (.string ⟨#[]⟩) := hB3.cell 1
  have y0 := hB3.frozen 0
  have y1 := hB3.frozen 1
  have HB3 := Lib.hid hB3
  clear hB2 hb02 hG3 hR2 hB3
  go_wp2
  obtain ⟨q0, q1⟩ := HB3.out.two (.string x.1) (.string x.2)
  exact bodyPost_ret (v := .tuple #[.int .i64 st, .agg #[.string x.1, .string x.2]]) (by simp [results, Tryd.results16, go_sem, q0, q1]) rfl ⟨st, x, rfl, hst'.1, hst'.2, hx1, hx2, (hb03.setCell (by simp) _).setCell (by simp) _⟩
def StepFact (st : Int) (x : Let) (g : Int) : Prop := ((st = 2 ∨ st = 3) ∧ g = 3) ∨ (st = 1 ∧ (g = 3 ∨ (x.1.toList = [82] ∧ g = 1) ∨ (x.1.toList = [67] ∧ g = 0))) ∨ ((st = -1 ∨ st = 0 ∨ st = 4) ∧ (g = 0 ∨ g = 1 ∨ g = 3 ∨ (g = 2 ∧ x.1.toList = [66])))
theorem stepFact {st : Int} (x : Let) (h0 : -1 ≤ st) (h4 : st ≤ 4) : StepFact st x (stepG st x) := by
  have h : st = -1 ∨ st = 0 ∨ st = 1 ∨ st = 2 ∨ st = 3 ∨ st = 4 := by omega
  have hc : stepG st x = 0 ∨ stepG st x = 1 ∨ stepG st x = 3 ∨ (stepG st x = 2 ∧ x.1.toList = [66]) := by
    rcases stepG_cases st x with h2 | h2 | h2 | h2
    · exact .inl h2
    · exact .inr (.inl h2)
    · exact .inr (.inr (.inr ⟨h2, step_two h2⟩))
    · exact .inr (.inr (.inl h2))
  rcases h with rfl | rfl | rfl | rfl | rfl | rfl
  · exact .inr (.inr ⟨.inl rfl, hc⟩)
  · exact .inr (.inr ⟨.inr (.inl rfl), hc⟩)
  · exact .inr (.inl ⟨rfl, step_one⟩)
  · exact .inl ⟨.inl rfl, step_out (.inl rfl)⟩
  · exact .inl ⟨.inr rfl, step_out (.inr rfl)⟩
  · exact .inr (.inr ⟨.inr (.inr rfl), hc⟩)
set_option maxRecDepth 100000 in
set_option maxHeartbeats 2000000 in
theorem lawStep (A : Option Addr) (bs : List UInt8) (c : Nat) (hbc : bs.length ≤ c ∧ c ≤ maxLen) (w : World) (hS : Sl encU 1 w A bs) (hV : Env w) :
    Calls Tryd.prog 5 #[.slice A bs.length c] w fun e w' => e = .returned (.bool true) ∧ Below w.heap.size w w' := by
  have hmx : maxLen = 9223372036854775807 := by unfold maxLen; rfl
  by_cases hz : bs.length ≤ 1048576
  · have hz' : decide (1048576 < (bs.length : Int)) = false := by simp; omega
    have HD := Lib.hid (drawStep_any A bs c w hz hbc.1 hbc.2 hS)
    have hbl : bs.length ≤ 9223372036854775807 := by omega
    have HV := Lib.hid hV
    clear hS hbc hV
    go_enter Tryd.func5, Tryd.ntmps5
    go_wp2_with fail
    refine HD.out.mono ?_
    rintro e w1 ⟨st, x, rfl, h0, h4, hx1, hx2, hb1⟩
    obtain ⟨x1, x2⟩ := x
    simp only at hx1 hx2 ⊢
    have HS := Lib.hid (stepFact (st := st) (x1, x2) h0 h4)
    have hb1' := hb1.alloc hb1.size (.cells #[.string x1, .string x2] 26)
    have HX := Lib.hid (Blk.new w1 26 #[.string x1, .string x2])
    have HV1 := Lib.hid ((HV.out.below hb1'))
    have hs1 := hb1.size
    go_wp2_with fail
    refine (implStep_any st (x1, x2) _ (by simp only; omega) (by simp only; omega) HV1.out).mono ?_
    rintro e w2 ⟨rfl, hb2⟩
    have hX2 := HX.out.kept hb2
    have y0 := hX2.at_ (i := 0) (by simp)
    have y1 := hX2.at_ (i := 1) (by simp)
    have hb12 := hb1'.trans (hb2.mono hb1'.size)
    have HW := Lib.hid (fun w0 : World => specStep_any st (x1, x2) w0 (by simp only; omega) (by simp only; omega))
    generalize stepG st (x1, x2) = g at *
    go_wp2_with fail
    refine (HW.out _).mono ?_
    rintro e w3 ⟨rfl, hb3⟩
    have hX3 := hX2.kept hb3
    have z0 := hX3.at_ (i := 0) (by simp)
    have z1 := hX3.at_ (i := 1) (by simp)
    have hb13 := hb12.trans (hb3.mono hb12.size)
    have F := HS.out
    unfold StepFact at F
    simp only at F
    clear hb1 hb2 hb3 hb12 hb1' hX2 hX3 HX HD HV HV1 HS y0 y1 HW
    obtain ⟨hst, rfl⟩ | ⟨rfl, rfl | ⟨hA, rfl⟩ | ⟨hA, rfl⟩⟩ | ⟨hst, rfl | rfl | rfl | ⟨rfl, hA⟩⟩ := F
    · obtain rfl | rfl := hst
      all_goals
        go_wp2
        go_ret
        exact ⟨rfl, hb13⟩
    · go_wp2
      go_ret
      exact ⟨rfl, hb13⟩
    · have k1 : (x1.toList == [82]) = true := beq_iff_eq.2 hA
      go_wp2
      go_ret
      exact ⟨rfl, hb13⟩
    · have k1 : (x1.toList == [82]) = false := by rw [hA]; rfl
      have k2 : (x1.toList == [67]) = true := beq_iff_eq.2 hA
      go_wp2
      go_ret
      exact ⟨rfl, hb13⟩
    all_goals obtain rfl | rfl | rfl := hst
    all_goals (try have k1 : (x1.toList == [66]) = true := beq_iff_eq.2 (by assumption))
    all_goals
      go_wp2
      go_ret
      exact ⟨rfl, hb13⟩
  · have hz' : decide (1048576 < (bs.length : Int)) = true := by simp; omega
    go_enter Tryd.func5, Tryd.ntmps5
    go_wp2
    go_ret
    exact ⟨rfl, Below.refl _ _⟩
set_option maxRecDepth 100000 in
theorem fnGramStep_lifted (os : Os) (started : os.Started) (H : Type) (enc : TypeId × Value → H) :
    ReturnsInHanded {} Tryd.checked os 5 .any (fun w args => (Rows.fnGramStepSpec.pre enc Tryd.prog Tryd.f5 [] false w args ∧ laidMetH Tryd.prog laidG w) ∧ sizedMet enc Tryd.prog Tryd.f5 (OpenSpec.ofChange Rows.fnGramStepSpec) false w args)
      (Rows.fnGramStepSpec.post enc Tryd.prog Tryd.f5 false true false false) := by
  refine returnsInHanded_of_change_and (C := Tryd.checked) (X := fun w _ => laidMetH Tryd.prog laidG w) (fun _ _ _ hh h => h.of_heap hh) own0 started (by kernel_rfl) Tryd.func5
    (ChangeSpec.witness_shaped (enc := enc) (C := Tryd.checked) (os := os) (X := fun w _ => laidMetH Tryd.prog laidG w) false (World.doorLaid Tryd.prog 2000 os) #[.slice none 0 0] 8 rfl (World.shaped_of_RefB (by kernel_rfl) (by kernel_rfl)) (by kernel_rfl) (by kernel_rfl) (by kernel_rfl) (door_met os _)) ?_
  intro W base args ds gs before hval0 hW _ _ hL _
  have hval : ∀ (j : Nat) t v, Tryd.f5.params[j]? = some t → args[j]? = some v → Value.okWide Tryd.prog W .any base t v := hval0
  have hW' := hW
  obtain ⟨p, q, hA0, hV, rfl, hfz, hnd⟩ := hW
  have hA : DataW.TrodAll enc Tryd.prog W 0 (fun _ => true) true Tryd.f5.params.toList args.toList ds p := hA0
  rw [Tryd.params5] at hA hval
  obtain ⟨v0, vs0, d0, ds0, p0, q0, hargs, rfl, rfl, h0, r0⟩ := trodAll_cons hA
  obtain ⟨rfl, rfl, rfl⟩ := trodAll_nil r0
  obtain rfl : args = #[v0] := by cases args; simp_all
  have hV1 : DataW.TrodVars enc Tryd.prog W (fun _ => true) ["loop.example/engrosser/impl.codeWords"] gs q := hV
  obtain ⟨g1, rfl⟩ : ∃ g1, gs = [g1] := by
    match gs, hV1 with
    | [g1], _ => exact ⟨g1, rfl⟩
    | [], h => exact h.elim
    | g1 :: g2 :: r, h => obtain ⟨_, _, _, _, _, _, _, _, _, _, hs, _⟩ := h; exact hs.elim
  have hE := env_of hL
  have k0 := h0
  have lt0 : ∀ x ∈ p0, x.block < W.heap.size := by obtain ⟨m, hm⟩ := k0; exact DataW.trod_lt m _ _ _ hm
  obtain ⟨A0, bs0, c0, rfl, hb0, hR0⟩ := open_bytes (hval 0 36 v0 rfl rfl) h0
  clear hA0 hval0
  refine (lawStep A0 bs0 c0 hb0 W hR0 hE).mono fun e W' ⟨he, bel⟩ => ?_
  subst he
  exact ⟨_, rfl, _, _, _, [], _, _, hW', trodAll_mk1 (shut_bool Tryd.underlying4 _), (trodAll_cons_mk (Below.trod laidOut0 (by kernel_rfl) (of_decide_eq_true (by kernel_rfl)) k0 bel lt0) trodAll_mk0), Below.trodVars laidOut0 bel varsOk hV1, bel.frame _, fun h => by cases h⟩

theorem fnGramStep_row : Rows.FnGramStepSaid :=
  OpenClaim.holds_of_wide 5 Tryd.f5 rfl rfl rfl rfl rfl rfl rfl ⟨rfl, rfl, rfl, rfl, rfl⟩ rfl rfl rfl rfl rfl (by kernel_rfl) Tryd.func5 (by kernel_rfl)
    (of_decide_eq_true (by kernel_rfl)) (by unfold Func.isWrapper; first | (rw [if_pos (by decide +kernel)]; kernel_rfl) | (rw [if_neg (by decide +kernel)]; exact ⟨rfl, rfl⟩))
    (fun os started H enc _ => fnGramStep_lifted os started H enc)
theorem fnGramStep_card : Rows.FnGramStepCardSaid :=
  Claim7.holds_tied_plain_at .later [] [.data, .data, .data, .sentinel, .sentinel, .data] true (true, "d41239489344c0662bd34a237d90e799fcf921db20ec0e31199bd6abe4c1385e") true
    fnGramStep_row (fun _ h => by cases h) (by kernel_rfl) (fun _ h => by cases h) fnGramStep_row_tie rfl ⟨rfl, rfl⟩ (by kernel_rfl) rfl
    (fun f fn hf hfn => by
      obtain rfl : f = 5 := Option.some.inj ((show Tryd.prog.funcNamed "loop.example/engrosser/laws.FnGramStep" = some 5 by kernel_rfl).symm.trans hf) |>.symm
      obtain rfl : fn = Tryd.f5 := (Option.some.inj (Tryd.func5.symm.trans hfn)).symm
      exact ⟨by kernel_rfl, fun j t ht => by
        rw [Tryd.params5] at ht
        have h3 : t = 36 := by
          match j, ht with
          | 0, ht => simp at ht; simp [ht]
          | j + 1, ht => simp at ht
        subst h3
        exact (show Tryd.prog.wantsStandIn 36 = false by kernel_rfl)⟩)
    (by kernel_rfl)
#print axioms fnGramStep_card
end Go.Proofs.YtbhocdmfmnlniaaDoor
