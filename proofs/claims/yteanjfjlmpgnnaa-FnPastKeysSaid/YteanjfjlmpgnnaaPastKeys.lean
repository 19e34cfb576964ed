/- FnPastKeys: what was done at a time is in order. For all codes. No condition. -/
import Derived.Test.YteanjfjlmpgnnaaPastD
import Derived.Test.YteanjfjlmpgnnaaWpW
import Derived.Test.YteanjfjlmpgnnaaL8R
import Derived.Test.YteanjfjlmpgnnaaWrtOk
namespace Go.Proofs.Yteanjfjlmpgnnaa
open Go.RowKit Go.ChangeShapes Go.WideShapes Go.ChangeAt Go.Deep
theorem pastK_in {now : Int} {l : List Ver} {t : Int} {x : Wri} (h : x ∈ pastL now l t) : versB now l = true ∧ 1 ≤ t ∧ t ≤ now ∧ x ∈ l8L l t := by
  unfold pastL at h
  split at h
  · rename_i h2; exact ⟨h2.1, h2.2.1, h2.2.2, h⟩
  · simp at h
/-- each is right, and the last that was done to its key is not ahead of it -/
theorem pastK_ok {now : Int} {l : List Ver} {t : Int} {x : Wri} (h : x ∈ pastL now l t) : wriB x = true ∧ t ≤ (if versB now l = true then lastV x.1 l else 0) := by
  obtain ⟨hv, h1, h2, hx⟩ := pastK_in h
  rw [if_pos hv]
  rcases l8L_mem.1 hx with ⟨y, hy, hf, rfl⟩ | ⟨y, hy, ht, _, rfl⟩
  · have hb := verB_iff.1 (versP_mem (versB_out hv) hy)
    refine ⟨?_, ?_⟩
    · unfold wriB; simp [hb.1, hb.2.1]
    · rw [← hf]
      exact (foldL_mem (K := y.1) l 0 y hy rfl).1
  · have hb := verB_iff.1 (versP_mem (versB_out hv) hy)
    refine ⟨?_, ?_⟩
    · unfold wriB; simp [hb.1]; decide
    · rw [← ht]
      exact (foldL_mem (K := y.1) l 0 y hy rfl).2
theorem pastK_asc {now : Int} {l : List Ver} {t : Int} : (pastL now l t).Pairwise (fun a b => kLt a.1 b.1) := by
  unfold pastL
  split
  · rename_i h; exact l8L_asc (versB_out h.1) t
  · simp
set_option maxRecDepth 100000 in
set_option maxHeartbeats 8000000 in
theorem lawPastKeys (A : Option Addr) (bs : List UInt8) (c : Nat) (w : World) (hc : bs.length ≤ c) (hm : c ≤ maxLen) (hS : Sl encU 1 w A bs) :
    Calls Try.prog 4 #[.slice A bs.length c] w fun e w' => e = .returned (.bool true) ∧ Below w.heap.size w w' := by
  go_enter Try.func4, Try.ntmps4
  by_cases hbig : 1048576 < bs.length
  · have d0 : decide ((1048576 : Int) < (bs.length : Int)) = true := decide_eq_true (by omega)
    go_wp2
    go_ret
    exact ⟨rfl, Below.refl _ _⟩
  have d0 : decide ((1048576 : Int) < (bs.length : Int)) = false := decide_eq_false (by omega)
  have HD := Lib.hid (drawPastAt_any A bs c w (by omega) hc hm hS)
  clear hS hbig
  go_wp2_with fail
  refine HD.out.mono ?_
  rintro e w1 ⟨now, t, l, v, rfl, ho, hf, hl, hn0, hn1, hb1⟩
  obtain ⟨A2, c2, rfl, _, _, hS2⟩ := ho.sl
  have hbn := (Below.refl w1.heap.size w1).alloc (Nat.le_refl _) (.cells #[.int .i64 now, .slice A2 l.length c2] 32)
  have HI0 := Lib.hid (show PN w w1.heap.size now A2 l c2 none [] 0 (w1.alloc (.cells #[.int .i64 now, .slice A2 l.length c2] 32)) from ⟨Blk.new w1 32 _, hS2.below hbn, fun h => absurd h (by simp), bthen hb1 hbn⟩)
  have HF := Lib.hid hf
  have HLEN := Lib.hid (pastN_len now l t)
  have HOKS := Lib.hid (fun (x : Wri) (h : x ∈ pastL now l t) => pastK_ok h)
  have HASC := Lib.hid (pastK_asc (now := now) (l := l) (t := t))
  generalize hpl : pastL now l t = ws at *
  have HP := Lib.hid hpl
  have hwl : ws.length ≤ 122 := by have := HLEN.out; omega
  have HC := Lib.hid (implPastAt_any A2 l c2 now t (w1.alloc (.cells #[.int .i64 now, .slice A2 l.length c2] 32)) hf (by omega) HI0.out.2.1)
  rw [HP.out] at HC
  have r0 : (w1.alloc (.cells #[.int .i64 now, .slice A2 l.length c2] 32)).cell? ⟨w1.heap.size, 0, none⟩ = some (.int .i64 now) := HI0.out.1.cell 0
  have r1 : (w1.alloc (.cells #[.int .i64 now, .slice A2 l.length c2] 32)).cell? ⟨w1.heap.size, 1, none⟩ = some (.slice A2 l.length c2) := HI0.out.1.cell 1
  clear hbn hb1 ho hS2 hf HD d0 hpl HLEN
  go_wp2_with fail
  generalize w1.alloc (.cells #[.int .i64 now, .slice A2 l.length c2] 32) = w2 at *
  have hg3 := HI0.out.1.lt
  generalize w1.heap.size = g3 at *
  refine HC.out.mono ?_
  rintro e w3 ⟨v3, rfl, ho3, hb3⟩
  obtain ⟨A5, c5, rfl, hcl, hcm5, hS5⟩ := ho3.sl
  have HI := Lib.hid (show PN w g3 now A2 l c2 A5 ws c5 w3 from ⟨HI0.out.1.kept hb3, HI0.out.2.1.below hb3, hS5, bthen HI0.out.2.2.2 hb3⟩)
  clear HC ho3 hb3 hS5 HI0 r0 r1 hg3
  have HC := Lib.hid (specPastAt_any A2 l c2 now t w3 HF.out (by omega) HI.out.2.1)
  rw [HP.out] at HC
  have r0 : w3.cell? ⟨g3, 0, none⟩ = some (.int .i64 now) := HI.out.1.cell 0
  have r1 : w3.cell? ⟨g3, 1, none⟩ = some (.slice A2 l.length c2) := HI.out.1.cell 1
  go_wp2_with fail
  refine HC.out.mono ?_
  rintro e w4 ⟨v4, rfl, ho4, hb4⟩
  obtain ⟨A6, c6, rfl, _, _, hS6⟩ := ho4.sl
  have HI2 := Lib.hid (HI.out.below hb4)
  have HC2 := Lib.hid (wpWrites_same A5 A6 ws c5 c6 w4 (by omega) HI2.out.2.2.1 hS6)
  clear HC ho4 hb4 hS6 HI r0 r1
  go_wp2_with fail
  refine HC2.out.mono ?_
  rintro e w5 ⟨rfl, hb5⟩
  have HI := Lib.hid (HI2.out.below hb5)
  clear HC2 HI2 hb5 HP
  unfold maxLen at hcm5
  go_wp2
  go_loopw [6] (fun i wr => ∃ k : Nat, k ≤ ws.length ∧ i = .int .i64 k ∧ Hid (PN w g3 now A2 l c2 A5 ws c5 wr)) (fun i _ => ws.length - (intOf i).toNat)
  case atStart => exact ⟨0, by omega, rfl, HI⟩
  case round =>
    clear HI
    obtain ⟨k, hk, rfl, HI⟩ := hrel
    by_cases hlt : k < ws.length
    · obtain ⟨b, o, rfl, hbl, c0, _, _⟩ := Sl.at3 HI.out.2.2.1 hlt
      have hx : ws[k].1.size ≤ maxLen := by
        have h := (HOKS.out _ (List.getElem_mem hlt)).1
        unfold wriB at h
        simp only [Bool.and_eq_true] at h
        have := keyB_size h.1.1
        unfold maxLen; omega
      have HX := Lib.hid (HOKS.out _ (List.getElem_mem hlt))
      have HS1 := Lib.hid (Sl.one3 HI.out.2.2.1 hlt)
      have HLT := Lib.hid (show ∀ m (h : m + 1 = k), kLt (ws[m]'(by omega)).1 ws[k].1 from fun m h => List.pairwise_iff_getElem.1 HASC.out m k (by omega) hlt (by omega))
      generalize ws[k] = x at *
      have r0 : wr.cell? ⟨g3, 0, none⟩ = some (.int .i64 now) := HI.out.1.cell 0
      have r1 : wr.cell? ⟨g3, 1, none⟩ = some (.slice A2 l.length c2) := HI.out.1.cell 1
      have hg3 := HI.out.1.lt
      have HW1 := Lib.hid (fun (w0 : World) (h0 : Below wr.heap.size wr w0) => implWritesOk_any (some ⟨b, o + k * 3, none⟩) [x] (c5 - k) w0 ⟨by unfold maxLen; simp, fun y hy => by simp at hy; subst hy; exact hx⟩ (by simp) (HS1.out.below h0))
      rw [wrsB_one, HX.out.1] at HW1
      simp only [List.length_cons, List.length_nil, Nat.zero_add] at HW1
      have HW2 := Lib.hid (fun (w0 : World) (h0 : Below wr.heap.size wr w0) => implLast_any A2 l c2 now x.1 w0 HF.out (by omega) (HI.out.2.1.below h0))
      obtain ⟨z, hz⟩ : ∃ z, z = (if versB now l = true then lastV x.1 l else 0) := ⟨_, rfl⟩
      rw [← hz] at HW2
      have hz2 : t ≤ z := by rw [hz]; exact HX.out.2
      clear hz
      have dz : decide (z < t) = false := decide_eq_false (by omega)
      have hki : (k : Int) < (ws.length : Int) := by omega
      have hki0 : (0 : Int) ≤ (k : Int) := by omega
      by_cases hk0 : k = 0
      · subst hk0
        simp only [Nat.zero_mul, Nat.add_zero, Nat.sub_zero] at c0 HW1
        have u1 : IntKind.i64.wrap (1 : Int) = 1 := by decide
        have u2 : (1 : Int) ≤ (c5 : Int) := by omega
        have u3 : ¬ (c5 = 0) := by omega
        have u4 : (1 : Int).toNat = 1 := rfl
        clear HLT hz2
        go_wp2_with fail
        refine wp_region_below (by kernel_rfl) (by kernel_rfl) ?_
        iterate 36 (first | go_big_quiet_skip | (refine wpQuiet_step (fun K hK => ?_); go_simp; first | (apply Exists.intro; refine ⟨fun W hW => ?_, hK _ ?_⟩; (first | rfl | (go_at_call 20; exact quiet_call hW (Nat.le_refl _) (HW1.out _ hW)) | (go_at_call 21; exact quiet_call hW (Nat.le_refl _) (HW2.out _ hW)) | (have c0x := (hW.cell (p := ⟨b, o, none⟩) hbl).trans c0; have r0x := (hW.cell (p := ⟨g3, 0, none⟩) hg3).trans r0; have r1x := (hW.cell (p := ⟨g3, 1, none⟩) hg3).trans r1; go_simp; rfl)); clear hK K) | (refine hK _ ?_; clear hK K)))
        refine wpQuiet_nil ?_
        intro W hW
        have HIW := Lib.hid (HI.out.below hW)
        go_wp2
        go_roundw
        case rel => exact ⟨1, by omega, by go_num, HIW⟩
        case measure => simp [intOf]; omega
      · obtain ⟨m, rfl⟩ : ∃ m, k = m + 1 := ⟨k - 1, by omega⟩
        obtain ⟨b', o', he, hbl', d0, d1, d2⟩ := Sl.at3 HI.out.2.2.1 (show m < ws.length by omega)
        simp at he
        obtain ⟨rfl, rfl⟩ := he
        have HLT2 := Lib.hid (HLT.out m rfl)
        generalize ws[m] = y at *
        have q1 : IntKind.i64.wrap (m : Int) = (m : Int) := IntWalk.i64_in _ (by omega)
        have q2 : (m : Int) < (ws.length : Int) := by omega
        have q3 : (0 : Int) ≤ (m : Int) := by omega
        have q4 : (m : Int) + 1 < (ws.length : Int) := by omega
        have q5 : (0 : Int) < (m : Int) + 1 := by omega
        have q6 : ((m : Int) + 1).toNat = m + 1 := by omega
        have q7 : (0 : Int) ≤ (m : Int) + 1 := by omega
        have u1 : IntKind.i64.wrap ((m : Int) + 1 + 1) = (m : Int) + 1 + 1 := IntWalk.i64_in _ (by omega)
        have u2 : (m : Int) + 1 + 1 ≤ (c5 : Int) := by omega
        have u3 : ¬ (c5 = m + 1) := by omega
        have u4 : ((m : Int) + 1 + 1).toNat = m + 1 + 1 := by omega
        have u5 : (m : Int) + 1 ≤ (m : Int) + 1 + 1 := by omega
        have u6 : m + 1 + 1 - (m + 1) = 1 := by omega
        have u7 : (0 : Int) ≤ (m : Int) + 1 + 1 := by omega
        have u8 : (m : Int) + 1 ≤ max ((m : Int) + 1 + 1) 0 := by omega
        have u9 : ¬ (m + 1 = c5) := by omega
        clear hki hki0 hk0 HLT
        have hge2 : Op.bytesLess y.1.toList x.1.toList = true := HLT2.out
        have hge : (!(Op.bytesLess y.1.toList x.1.toList)) = false := by rw [show Op.bytesLess y.1.toList x.1.toList = true from HLT2.out]; rfl
        clear hz2
        go_wp2_with fail
        refine wp_region_below (by kernel_rfl) (by kernel_rfl) ?_
        iterate 36 (first | go_big_quiet_skip | (refine wpQuiet_step (fun K hK => ?_); go_simp; first | (apply Exists.intro; refine ⟨fun W hW => ?_, hK _ ?_⟩; (first | rfl | (go_at_call 20; exact quiet_call hW (Nat.le_refl _) (HW1.out _ hW)) | (go_at_call 21; exact quiet_call hW (Nat.le_refl _) (HW2.out _ hW)) | (have c0x := (hW.cell (p := ⟨b, o + (m + 1) * 3, none⟩) hbl).trans c0; have d0x := (hW.cell (p := ⟨b, o + m * 3, none⟩) hbl).trans d0; have r0x := (hW.cell (p := ⟨g3, 0, none⟩) hg3).trans r0; have r1x := (hW.cell (p := ⟨g3, 1, none⟩) hg3).trans r1; go_simp; rfl)); clear hK K) | (refine hK _ ?_; clear hK K)))
        refine wpQuiet_nil ?_
        intro W hW
        have HIW := Lib.hid (HI.out.below hW)
        go_wp2
        go_roundw
        case rel => exact ⟨m + 1 + 1, by omega, by go_num, HIW⟩
        case measure => simp [intOf]; omega
    · obtain rfl : k = ws.length := by omega
      have hbe := HI.out.2.2.2
      go_wp2
      go_ret
      exact ⟨rfl, hbe⟩
theorem own0 : ownKnob Try.prog.godebug = none := by kernel_rfl
theorem laidOut0 : laidOutB Try.prog = true := by kernel_rfl
set_option maxRecDepth 100000 in
theorem pastKeys_lifted (os : Os) (started : os.Started) (H : Type) (enc : TypeId × Value → H) :
    ReturnsInHanded {} Try.checked os 4 .any (Rows.fnPastKeysSpec.pre6 enc Try.prog Try.f4 Rows.fnPastKeysRow.domain false) (Rows.fnPastKeysSpec.post enc Try.prog Try.f4 false true false false) := by
  refine returnsInHanded_of_change (C := Try.checked) own0 started (by kernel_rfl) Try.func4
    (ChangeSpec.witness6 (enc := enc) (C := Try.checked) false ⟨#[], #[.slice none 0 0], []⟩ 8 (by kernel_rfl) (by kernel_rfl) (by kernel_rfl) (by kernel_rfl)) ?_
  intro W base args ds gs before hval0 hW hcnd _
  have hval : ∀ (j : Nat) t v, Try.f4.params[j]? = some t → args[j]? = some v → Value.okWide Try.prog W .any base t v := hval0
  have hW' := hW
  obtain ⟨p, q, hA0, hV, rfl, hfz, hnd⟩ := hW
  have hA : DataW.TrodAll enc Try.prog W 0 (fun _ => true) true Try.f4.params.toList args.toList ds p := hA0
  rw [Try.params4] at hA hval
  obtain ⟨v0, vs0, d0, ds0, p0, q0, hargs, rfl, rfl, h0, r0⟩ := trodAll_cons hA
  obtain ⟨rfl, rfl, rfl⟩ := trodAll_nil r0
  obtain rfl : args = #[v0] := by cases args; simp_all
  obtain ⟨rfl, rfl⟩ := trodVars_none hV
  have k0 := h0
  have lt0 : ∀ x ∈ p0, x.block < W.heap.size := by obtain ⟨m, hm⟩ := k0; exact DataW.trod_lt m _ _ _ hm
  obtain ⟨A0, bs0, c0, rfl, hb0, hR0⟩ := open_bytes (hval 0 38 v0 rfl rfl) h0
  clear hA0 hval0
  refine (lawPastKeys A0 bs0 c0 W hb0.1 hb0.2 hR0).mono fun e W' ⟨he, bel⟩ => ?_
  subst he
  exact ⟨_, rfl, _, _, _, [], _, [], hW', trodAll_mk1 (shut_bool Try.underlying4 _), (trodAll_cons_mk (Below.trod laidOut0 (by kernel_rfl) (of_decide_eq_true (by kernel_rfl)) k0 bel lt0) trodAll_mk0), rfl, bel.frame _, fun h => by cases h⟩
theorem pastKeys_holds : Rows.FnPastKeysSaid :=
  OpenClaim.holds_of_wide 4 Try.f4 rfl rfl rfl rfl rfl rfl rfl ⟨rfl, rfl, rfl, rfl, rfl⟩ rfl rfl rfl rfl rfl (by kernel_rfl) Try.func4 (by kernel_rfl)
    (of_decide_eq_true (by kernel_rfl)) (by unfold Func.isWrapper; first | (rw [if_pos (by decide +kernel)]; kernel_rfl) | (rw [if_neg (by decide +kernel)]; exact ⟨rfl, rfl⟩))
    (fun os started H enc _ => pastKeys_lifted os started H enc)
#print axioms pastKeys_holds
end Go.Proofs.Yteanjfjlmpgnnaa
