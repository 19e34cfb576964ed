/- FnVersNone: where nothing is done time goes on, and nothing turns. For every code. No condition. -/
import Derived.Test.YtfmpohhaimgnfaaDrawV
import Derived.Test.YtfmpohhaimgnfaaSame
import Derived.Test.YtfmpohhaimgnfaaPlainV
import Derived.Test.YtfmpohhaimgnfaaBytes
import Derived.Deep.RegionHeld3
namespace Go.Proofs.Ytfmpohhaimgnfaa
open Go.RowKit Go.ChangeShapes Go.WideShapes Go.ChangeAt Go.Deep
/-- a store in a box of the law's own -/
def BN (w : World) (g : Nat) (now : Int) (A : Option Addr) (l : List Ver) (c : Nat) (W : World) : Prop := Blk W g 25 #[.int .i64 now, .slice A l.length c] ∧ OwnV W w.heap.size (.slice A l.length c) l
theorem BN.below {w : World} {g : Nat} {now : Int} {A : Option Addr} {l : List Ver} {c : Nat} {W W' : World} (h : BN w g now A l c W) (hb : Below W.heap.size W W') : BN w g now A l c W' := ⟨h.1.kept hb, own_kept h.2 hb⟩
set_option maxRecDepth 100000 in
set_option maxHeartbeats 4000000 in
theorem lawVersNone (A : Option Addr) (bs : List UInt8) (c : Nat) (w : World) (hc : bs.length ≤ c) (hm : c ≤ maxLen) (hS : Sl encU 1 w A bs) :
    Calls Try.prog 4 #[.slice A bs.length c] w fun e w' => e = .returned (.bool true) ∧ Below w.heap.size w w' := by
  go_enter Try.func4, Try.ntmps4
  by_cases hbig : 1048576 < bs.length
  · have d0 : decide ((1048576 : Int) < (bs.length : Int)) = true := decide_eq_true (by omega)
    go_wp2
    go_ret
    exact ⟨rfl, Below.refl _ _⟩
  have d0 : decide ((1048576 : Int) < (bs.length : Int)) = false := decide_eq_false (by omega)
  have HD := Lib.hid (drawOk_any A bs c w (by omega) hc hm hS)
  clear hS
  go_wp2_with fail
  refine HD.out.mono ?_
  rintro e w1 ⟨now, l, v, rfl, ho, hf, hl, hn0, hn1, hb1⟩
  obtain ⟨A2, c2, rfl, _, _, hS2⟩ := ho.sl
  have hbn := (Below.refl w1.heap.size w1).alloc (Nat.le_refl _) (.cells #[.int .i64 now, .slice A2 l.length c2] 25)
  have HB := Lib.hid (show BN w w1.heap.size now A2 l c2 (w1.alloc (.cells #[.int .i64 now, .slice A2 l.length c2] 25)) from ⟨Blk.new w1 25 _, own_kept ho hbn⟩)
  have hbw := bthen hb1 hbn
  have HF := Lib.hid hf
  have HLEN := Lib.hid (doV_len now l [])
  generalize hdv : doV now l [] = R at *
  have HR := Lib.hid hdv
  obtain ⟨⟨nw, L⟩, ok⟩ := R
  have hLl : L.length ≤ 61 := by have := HLEN.out; simp at this; omega
  clear hbn hb1 ho hS2 hf HD hdv HLEN
  have r0 : (w1.alloc (.cells #[.int .i64 now, .slice A2 l.length c2] 25)).cell? ⟨w1.heap.size, 0, none⟩ = some (.int .i64 now) := HB.out.1.cell 0
  have r1 : (w1.alloc (.cells #[.int .i64 now, .slice A2 l.length c2] 25)).cell? ⟨w1.heap.size, 1, none⟩ = some (.slice A2 l.length c2) := HB.out.1.cell 1
  have HC := Lib.hid (implVersDo_any A2 none l [] c2 0 now _ HF.out (by omega) ⟨Nat.zero_le _, fun x h => absurd h (by simp)⟩ (by simp) HB.out.2.reads2 (Sl.nilW rfl))
  rw [HR.out] at HC
  go_wp2_with fail
  generalize w1.alloc (.cells #[.int .i64 now, .slice A2 l.length c2] 25) = w2 at *
  have hg3 := HB.out.1.lt
  generalize w1.heap.size = g3 at *
  refine HC.out.mono ?_
  rintro e w3 ⟨v3, rfl, ho3, hb3⟩
  simp only at ho3 ⊢
  obtain ⟨A4, c4, rfl, _, _, hS4⟩ := ho3.sl
  have hbn := (Below.refl w3.heap.size w3).alloc (Nat.le_refl _) (.cells #[.int .i64 nw, .slice A4 L.length c4] 25)
  have HB4 := Lib.hid (show BN w w3.heap.size nw A4 L c4 (w3.alloc (.cells #[.int .i64 nw, .slice A4 L.length c4] 25)) from ⟨Blk.new w3 25 _, OwnV.le (own_kept ho3 hbn : OwnV _ w2.heap.size _ _) hbw.size⟩)
  have HB3 := Lib.hid (HB.out.below (bthen hb3 hbn))
  have hbw4 := bthen hbw (bthen hb3 hbn)
  clear HC HB hbw hb3 hbn ho3 hS4 r0 r1
  have r0 : (w3.alloc (.cells #[.int .i64 nw, .slice A4 L.length c4] 25)).cell? ⟨g3, 0, none⟩ = some (.int .i64 now) := HB3.out.1.cell 0
  have r1 : (w3.alloc (.cells #[.int .i64 nw, .slice A4 L.length c4] 25)).cell? ⟨g3, 1, none⟩ = some (.slice A2 l.length c2) := HB3.out.1.cell 1
  have HC := Lib.hid (specVersDo_any A2 none l [] c2 0 now _ HF.out (by omega) ⟨Nat.zero_le _, fun x h => absurd h (by simp)⟩ (by simp) HB3.out.2.reads2 (Sl.nilW rfl))
  rw [HR.out] at HC
  go_wp2_with fail
  generalize w3.alloc (.cells #[.int .i64 nw, .slice A4 L.length c4] 25) = w4 at *
  have hg4 := HB4.out.1.lt
  generalize w3.heap.size = g4 at *
  refine HC.out.mono ?_
  rintro e w5 ⟨v5, rfl, ho5, hb5⟩
  simp only at ho5 ⊢
  obtain ⟨A6, c6, rfl, _, _, hS6⟩ := ho5.sl
  have hbn := (Below.refl w5.heap.size w5).alloc (Nat.le_refl _) (.cells #[.int .i64 nw, .slice A6 L.length c6] 25)
  have HB6 := Lib.hid (show BN w w5.heap.size nw A6 L c6 (w5.alloc (.cells #[.int .i64 nw, .slice A6 L.length c6] 25)) from ⟨Blk.new w5 25 _, OwnV.le (own_kept ho5 hbn : OwnV _ w4.heap.size _ _) hbw4.size⟩)
  have HB3 := Lib.hid (HB3.out.below (bthen hb5 hbn))
  have HB4 := Lib.hid (HB4.out.below (bthen hb5 hbn))
  have hbw6 := bthen hbw4 (bthen hb5 hbn)
  have hg56 := hb5.size
  clear HC hbw4 hb5 hbn ho5 hS6 r0 r1
  have r2 : (w5.alloc (.cells #[.int .i64 nw, .slice A6 L.length c6] 25)).cell? ⟨g4, 0, none⟩ = some (.int .i64 nw) := HB4.out.1.cell 0
  have r3 : (w5.alloc (.cells #[.int .i64 nw, .slice A6 L.length c6] 25)).cell? ⟨g4, 1, none⟩ = some (.slice A4 L.length c4) := HB4.out.1.cell 1
  have r4 : (w5.alloc (.cells #[.int .i64 nw, .slice A6 L.length c6] 25)).cell? ⟨w5.heap.size, 0, none⟩ = some (.int .i64 nw) := HB6.out.1.cell 0
  have r5 : (w5.alloc (.cells #[.int .i64 nw, .slice A6 L.length c6] 25)).cell? ⟨w5.heap.size, 1, none⟩ = some (.slice A6 L.length c6) := HB6.out.1.cell 1
  have HSA := Lib.hid (implSame_same A4 A6 L c4 c6 nw _ (by omega) HB4.out.2.reads2 HB6.out.2.reads2)
  cases ok
  case false =>
    go_wp2_with fail
    generalize w5.alloc (.cells #[.int .i64 nw, .slice A6 L.length c6] 25) = w6 at *
    refine HSA.out.mono ?_
    rintro e w7 ⟨rfl, hb7⟩
    have hbw7 := bthen hbw6 hb7
    have HB4 := Lib.hid (HB4.out.below hb7)
    have HB6 := Lib.hid (HB6.out.below hb7)
    clear r2 r3 r4 r5 HSA
    have r2 : w7.cell? ⟨g4, 0, none⟩ = some (.int .i64 nw) := HB4.out.1.cell 0
    have r3 : w7.cell? ⟨g4, 1, none⟩ = some (.slice A4 L.length c4) := HB4.out.1.cell 1
    have r4 : w7.cell? ⟨w5.heap.size, 0, none⟩ = some (.int .i64 nw) := HB6.out.1.cell 0
    have r5 : w7.cell? ⟨w5.heap.size, 1, none⟩ = some (.slice A6 L.length c6) := HB6.out.1.cell 1
    have HSA := Lib.hid (implSame_same A4 A6 L c4 c6 nw w7 (by omega) HB4.out.2.reads2 HB6.out.2.reads2)
    go_wp2_with fail
    refine HSA.out.mono ?_
    rintro e w8 ⟨rfl, hb8⟩
    have hbw8 := bthen hbw7 hb8
    go_wp2
    go_ret
    exact ⟨rfl, hbw8⟩
  go_wp2_with fail
  generalize w5.alloc (.cells #[.int .i64 nw, .slice A6 L.length c6] 25) = w6 at *
  refine HSA.out.mono ?_
  rintro e w7 ⟨rfl, hb7⟩
  obtain ⟨e1, e2, hv1, hv2⟩ := doV_nil HR.out
  subst e2
  have hn40 := (versB_out hv2).1.2.1
  have hnn := (versB_out hv1).1.1
  have HRX := Lib.hid (show rowsA nw L nw = atL L now by rw [e1]; exact (rowsA_yes hv2 (t := now + 1) (by omega) (Int.le_refl _)).trans (atL_next hv1))
  have HRY := Lib.hid (rowsA_yes hv1 (t := now) hnn (Int.le_refl _))
  have hal := atL_le L now
  generalize atL L now = R at *
  have hwp : IntKind.i64.wrap (now + 1) = nw := by rw [e1, IntKind.wrap_i64]; omega
  have d40 : decide (now < 40) = true := decide_eq_true (by omega)
  clear e1
  have hb7d := bthen hb7 (Below.refl w7.heap.size w7).drew
  have HB3 := Lib.hid (HB3.out.below hb7d)
  have HB4 := Lib.hid (HB4.out.below hb7d)
  have hbw8 := bthen hbw6 hb7d
  have s0 : w7.cell? ⟨g3, 0, none⟩ = some (.int .i64 now) := HB3.out.1.cell 0
  have s1 : w7.cell? ⟨g3, 1, none⟩ = some (.slice A2 L.length c2) := HB3.out.1.cell 1
  have s2 : w7.cell? ⟨g4, 0, none⟩ = some (.int .i64 nw) := HB4.out.1.cell 0
  have s3 : w7.cell? ⟨g4, 1, none⟩ = some (.slice A4 L.length c4) := HB4.out.1.cell 1
  have HBW := Lib.hid hbw8
  clear hb7d hbw8 hb7 HSA r2 r3 r4 r5 hbw6 HB6 hv1 hv2 HR
  go_wp2_with fail
  go_region_held3 (fun W => W.cell? ⟨g3, 0, none⟩ = some (.int .i64 now) ∧ W.cell? ⟨g3, 1, none⟩ = some (.slice A2 L.length c2) ∧ W.cell? ⟨g4, 0, none⟩ = some (.int .i64 nw) ∧ W.cell? ⟨g4, 1, none⟩ = some (.slice A4 L.length c4))
    (first | assumption | go_keep)
    (first
      | (go_at_call 18
         refine (wpRows_same AX AY R cX cY _ (by omega) HX.out.reads HY.out.reads).mono ?_
         rintro e wk ⟨rfl, hbk⟩
         have HB3 := Lib.hid (HB3.out.below hbk)
         have HB4 := Lib.hid (HB4.out.below hbk)
         have HBW := Lib.hid (bthen HBW.out hbk)
         have hkk : wk.cell? ⟨g3, 0, none⟩ = some (.int .i64 now) ∧ wk.cell? ⟨g3, 1, none⟩ = some (.slice A2 L.length c2) ∧ wk.cell? ⟨g4, 0, none⟩ = some (.int .i64 nw) ∧ wk.cell? ⟨g4, 1, none⟩ = some (.slice A4 L.length c4) := ⟨HB3.out.1.cell 0, HB3.out.1.cell 1, HB4.out.1.cell 0, HB4.out.1.cell 1⟩
         clear hbk)
      | (go_at_call 19
         refine (implAt_any _ _ _ _ _ _ ?_ ?_ ?_).mono ?_
         (exact HF.out)
         omega
         (first | exact HB4.out.2.reads2 | exact HB3.out.2.reads2)
         rintro e wk ⟨vk, rfl, hok, hbk⟩
         first
           | (rw [HRX.out] at hok
              obtain ⟨AX, cX, rfl, _, _, hSX⟩ := hok.sl
              have HX := Lib.hid hok
              try have HY := Lib.hid (HY.out.below hbk)
              clear hSX)
           | (rw [HRY.out] at hok
              obtain ⟨AY, cY, rfl, _, _, hSY⟩ := hok.sl
              have HY := Lib.hid hok
              try have HX := Lib.hid (HX.out.below hbk)
              clear hSY)
         have HB3 := Lib.hid (HB3.out.below hbk)
         have HB4 := Lib.hid (HB4.out.below hbk)
         have HBW := Lib.hid (bthen HBW.out hbk)
         have hkk : wk.cell? ⟨g3, 0, none⟩ = some (.int .i64 now) ∧ wk.cell? ⟨g3, 1, none⟩ = some (.slice A2 L.length c2) ∧ wk.cell? ⟨g4, 0, none⟩ = some (.int .i64 nw) ∧ wk.cell? ⟨g4, 1, none⟩ = some (.slice A4 L.length c4) := ⟨HB3.out.1.cell 0, HB3.out.1.cell 1, HB4.out.1.cell 0, HB4.out.1.cell 1⟩
         clear hok hbk))
  all_goals
    go_wp2
    go_ret
    exact ⟨rfl, HBW.out⟩
theorem own0 : ownKnob Try.prog.godebug = none := by kernel_rfl
theorem laidOut0 : laidOutB Try.prog = true := by kernel_rfl
set_option maxRecDepth 100000 in
theorem versNone_lifted (os : Os) (started : os.Started) (H : Type) (enc : TypeId × Value → H) :
    ReturnsInHanded {} Try.checked os 4 .any (Rows.fnVersNoneSpec.pre6 enc Try.prog Try.f4 Rows.fnVersNoneRow.domain false) (Rows.fnVersNoneSpec.post enc Try.prog Try.f4 false true false false) := by
  refine returnsInHanded_of_change (C := Try.checked) own0 started (by kernel_rfl) Try.func4
    (ChangeSpec.witness6 (enc := enc) (C := Try.checked) false ⟨#[], #[.slice none 0 0], []⟩ 8 (by kernel_rfl) (by kernel_rfl) (by kernel_rfl) (by kernel_rfl)) ?_
  intro W base args ds gs before hval0 hW hcnd _
  have hval : ∀ (j : Nat) t v, Try.f4.params[j]? = some t → args[j]? = some v → Value.okWide Try.prog W .any base t v := hval0
  have hW' := hW
  obtain ⟨p, q, hA0, hV, rfl, hfz, hnd⟩ := hW
  have hA : DataW.TrodAll enc Try.prog W 0 (fun _ => true) true Try.f4.params.toList args.toList ds p := hA0
  rw [Try.params4] at hA hval
  obtain ⟨v0, vs0, d0, ds0, p0, q0, hargs, rfl, rfl, h0, r0⟩ := trodAll_cons hA
  obtain ⟨rfl, rfl, rfl⟩ := trodAll_nil r0
  obtain rfl : args = #[v0] := by cases args; simp_all
  obtain ⟨rfl, rfl⟩ := trodVars_none hV
  have k0 := h0
  have lt0 : ∀ x ∈ p0, x.block < W.heap.size := by obtain ⟨m, hm⟩ := k0; exact DataW.trod_lt m _ _ _ hm
  obtain ⟨A0, bs0, c0, rfl, hb0, hR0⟩ := open_bytes (hval 0 22 v0 rfl rfl) h0
  clear hA0 hval0
  refine (lawVersNone A0 bs0 c0 W hb0.1 hb0.2 hR0).mono fun e W' ⟨he, bel⟩ => ?_
  subst he
  exact ⟨_, rfl, _, _, _, [], _, [], hW', trodAll_mk1 (shut_bool Try.underlying4 _), (trodAll_cons_mk (Below.trod laidOut0 (by kernel_rfl) (of_decide_eq_true (by kernel_rfl)) k0 bel lt0) trodAll_mk0), rfl, bel.frame _, fun h => by cases h⟩
theorem versNone_holds : Rows.FnVersNoneSaid :=
  OpenClaim.holds_of_wide 4 Try.f4 rfl rfl rfl rfl rfl rfl rfl ⟨rfl, rfl, rfl, rfl, rfl⟩ rfl rfl rfl rfl rfl (by kernel_rfl) Try.func4 (by kernel_rfl)
    (of_decide_eq_true (by kernel_rfl)) (by unfold Func.isWrapper; first | (rw [if_pos (by decide +kernel)]; kernel_rfl) | (rw [if_neg (by decide +kernel)]; exact ⟨rfl, rfl⟩))
    (fun os started H enc _ => versNone_lifted os started H enc)
#print axioms versNone_holds
end Go.Proofs.Ytfmpohhaimgnfaa
