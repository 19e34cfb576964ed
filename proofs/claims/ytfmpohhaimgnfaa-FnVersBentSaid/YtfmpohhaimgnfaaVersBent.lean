/- FnVersBent: of a store that is not right nothing stands at any time, and nothing can be done. For every code. No condition. -/
import Derived.Test.YtfmpohhaimgnfaaDrawV
import Derived.Test.YtfmpohhaimgnfaaSame
import Derived.Test.YtfmpohhaimgnfaaBytes
namespace Go.Proofs.Ytfmpohhaimgnfaa
open Go.RowKit Go.ChangeShapes Go.WideShapes Go.ChangeAt Go.Deep
/-- a store in a box of the law's own -/
def BX (w : World) (g : Nat) (now : Int) (A : Option Addr) (l : List Ver) (c : Nat) (W : World) : Prop := Blk W g 25 #[.int .i64 now, .slice A l.length c] ∧ OwnV W w.heap.size (.slice A l.length c) l
theorem BX.below {w : World} {g : Nat} {now : Int} {A : Option Addr} {l : List Ver} {c : Nat} {W W' : World} (h : BX w g now A l c W) (hb : Below W.heap.size W W') : BX w g now A l c W' := ⟨h.1.kept hb, own_kept h.2 hb⟩
set_option maxRecDepth 100000 in
set_option maxHeartbeats 4000000 in
theorem lawVersBent (A : Option Addr) (bs : List UInt8) (c : Nat) (w : World) (hc : bs.length ≤ c) (hm : c ≤ maxLen) (hS : Sl encU 1 w A bs) :
    Calls Try.prog 6 #[.slice A bs.length c] w fun e w' => e = .returned (.bool true) ∧ Below w.heap.size w w' := by
  go_enter Try.func6, Try.ntmps6
  by_cases hbig : 1048576 < bs.length
  · have d0 : decide ((1048576 : Int) < (bs.length : Int)) = true := decide_eq_true (by omega)
    go_wp2
    go_ret
    exact ⟨rfl, Below.refl _ _⟩
  have d0 : decide ((1048576 : Int) < (bs.length : Int)) = false := decide_eq_false (by omega)
  have HD := Lib.hid (drawAt_any A bs c w (by omega) hc hm hS)
  clear hS
  go_wp2_with fail
  refine HD.out.mono ?_
  rintro e w1 ⟨now, t, l, v, rfl, ho, hf, hl, hn0, hn1, hb1⟩
  obtain ⟨A2, c2, rfl, _, _, hS2⟩ := ho.sl
  have hbn := (Below.refl w1.heap.size w1).alloc (Nat.le_refl _) (.cells #[.int .i64 now, .slice A2 l.length c2] 25)
  have HB := Lib.hid (show BX w w1.heap.size now A2 l c2 (w1.alloc (.cells #[.int .i64 now, .slice A2 l.length c2] 25)) from ⟨Blk.new w1 25 _, own_kept ho hbn⟩)
  have hbw := bthen hb1 hbn
  have HF := Lib.hid hf
  clear hbn hb1 ho hS2 hf HD
  have r0 : (w1.alloc (.cells #[.int .i64 now, .slice A2 l.length c2] 25)).cell? ⟨w1.heap.size, 0, none⟩ = some (.int .i64 now) := HB.out.1.cell 0
  have r1 : (w1.alloc (.cells #[.int .i64 now, .slice A2 l.length c2] 25)).cell? ⟨w1.heap.size, 1, none⟩ = some (.slice A2 l.length c2) := HB.out.1.cell 1
  have HV := Lib.hid (implVersOk_any A2 l c2 now _ HF.out (by omega) HB.out.2.reads2)
  go_wp2_with fail
  generalize w1.alloc (.cells #[.int .i64 now, .slice A2 l.length c2] 25) = w2 at *
  have hg3 := HB.out.1.lt
  generalize w1.heap.size = g3 at *
  refine HV.out.mono ?_
  rintro e w3 ⟨rfl, hb3⟩
  have HB3 := Lib.hid (HB.out.below hb3)
  have hbw3 := bthen hbw hb3
  clear HV HB hbw r0 r1 hb3
  have r0 : w3.cell? ⟨g3, 0, none⟩ = some (.int .i64 now) := HB3.out.1.cell 0
  have r1 : w3.cell? ⟨g3, 1, none⟩ = some (.slice A2 l.length c2) := HB3.out.1.cell 1
  have HV := Lib.hid (specVersOk_any A2 l c2 now w3 HF.out (by omega) HB3.out.2.reads2)
  cases hv : versB now l
  case true =>
    have HYES := Lib.hid hv
    rw [hv] at HV
    clear hv
    go_wp2_with fail
    refine HV.out.mono ?_
    rintro e w4 ⟨rfl, hb4⟩
    have HB4 := Lib.hid (HB3.out.below hb4)
    have hbw4 := bthen hbw3 hb4
    clear HV hb4 r0 r1
    have r0 : w4.cell? ⟨g3, 0, none⟩ = some (.int .i64 now) := HB4.out.1.cell 0
    have r1 : w4.cell? ⟨g3, 1, none⟩ = some (.slice A2 l.length c2) := HB4.out.1.cell 1
    have HV := Lib.hid (specVersOk_any A2 l c2 now w4 HF.out (by omega) HB4.out.2.reads2)
    rw [HYES.out] at HV
    go_wp2_with fail
    refine HV.out.mono ?_
    rintro e w5 ⟨rfl, hb5⟩
    have hbw5 := bthen hbw4 hb5
    go_wp2
    go_ret
    exact ⟨rfl, hbw5⟩
  have HNO := Lib.hid hv
  rw [hv] at HV
  have HDV := Lib.hid (show doV now l [] = ((0, []), false) by unfold doV; rw [if_neg (by rw [hv]; simp)])
  have HRA := Lib.hid (rowsA_no (now := now) (l := l) (t := t) (fun h => by rw [hv] at h; cases h.1))
  clear hv
  go_wp2_with fail
  refine HV.out.mono ?_
  rintro e w4 ⟨rfl, hb4⟩
  have HB4 := Lib.hid (HB3.out.below hb4)
  have hbw4 := bthen hbw3 hb4
  clear HV hb4 r0 r1
  have r0 : w4.cell? ⟨g3, 0, none⟩ = some (.int .i64 now) := HB4.out.1.cell 0
  have r1 : w4.cell? ⟨g3, 1, none⟩ = some (.slice A2 l.length c2) := HB4.out.1.cell 1
  have HC := Lib.hid (implVersDo_any A2 none l [] c2 0 now w4 HF.out (by omega) ⟨Nat.zero_le _, fun x h => absurd h (by simp)⟩ (by simp) HB4.out.2.reads2 (Sl.nilW rfl))
  rw [HDV.out] at HC
  go_wp2_with fail
  refine HC.out.mono ?_
  rintro e w5 ⟨v5, rfl, ho5, hb5⟩
  simp only at ho5 ⊢
  obtain ⟨A5, c5, rfl, _, _, hS5⟩ := ho5.sl
  simp only [List.length_nil] at *
  have hbn := (Below.refl w5.heap.size w5).alloc (Nat.le_refl _) (.cells #[.int .i64 0, .slice A5 0 c5] 25)
  have hB6 := Blk.new w5 25 #[.int .i64 0, .slice A5 0 c5]
  have HB6 := Lib.hid ((HB4.out.below hb5).below hbn)
  have hbw6 := bthen (bthen hbw4 hb5) hbn
  clear HC hbn hb5 ho5 hS5 r0 r1
  have r0 : (w5.alloc (.cells #[.int .i64 0, .slice A5 0 c5] 25)).cell? ⟨g3, 0, none⟩ = some (.int .i64 now) := HB6.out.1.cell 0
  have r1 : (w5.alloc (.cells #[.int .i64 0, .slice A5 0 c5] 25)).cell? ⟨g3, 1, none⟩ = some (.slice A2 l.length c2) := HB6.out.1.cell 1
  have HAT := Lib.hid (implAt_any A2 l c2 now t _ HF.out (by omega) HB6.out.2.reads2)
  rw [HRA.out] at HAT
  go_wp2_with fail
  generalize w5.alloc (.cells #[.int .i64 0, .slice A5 0 c5] 25) = w6 at *
  have hg6 := hB6.lt
  generalize w5.heap.size = g6 at *
  refine HAT.out.mono ?_
  rintro e w7 ⟨v7, rfl, ho7, hb7⟩
  obtain ⟨A7, c7, rfl, _, _, hS7⟩ := ho7.sl
  have HB7 := Lib.hid (HB6.out.below hb7)
  have hB67 := hB6.kept hb7
  have hbw7 := bthen hbw6 hb7
  clear HAT hb7 ho7 hS7 r0 r1 hB6
  have r0 : w7.cell? ⟨g3, 0, none⟩ = some (.int .i64 now) := HB7.out.1.cell 0
  have r1 : w7.cell? ⟨g3, 1, none⟩ = some (.slice A2 l.length c2) := HB7.out.1.cell 1
  have HLA := Lib.hid (implLast_bad A2 l c2 now ⟨#[97]⟩ w7 HF.out (by omega) HB7.out.2.reads2 HNO.out)
  go_wp2_with fail
  refine HLA.out.mono ?_
  rintro e w8 ⟨rfl, hb8⟩
  have HB8 := Lib.hid (HB7.out.below hb8)
  have hB68 := hB67.kept hb8
  have hbw8 := bthen hbw7 hb8
  clear HLA hb8 r0 r1 hB67
  have r2 : w8.cell? ⟨g6, 0, none⟩ = some (.int .i64 0) := hB68.cell 0
  have r3 : w8.cell? ⟨g6, 1, none⟩ = some (.slice A5 0 c5) := hB68.cell 1
  have HSA := Lib.hid (implSame_same A5 none [] c5 0 0 w8 (by simp) (Sl.nil _ _ _ _) (Sl.nil _ _ _ _))
  go_wp2_with fail
  refine HSA.out.mono ?_
  rintro e w9 ⟨rfl, hb9⟩
  have HB9 := Lib.hid (HB8.out.below hb9)
  have hbw9 := bthen hbw8 hb9
  clear HSA hb9 r2 r3
  have r0 : w9.cell? ⟨g3, 0, none⟩ = some (.int .i64 now) := HB9.out.1.cell 0
  have r1 : w9.cell? ⟨g3, 1, none⟩ = some (.slice A2 l.length c2) := HB9.out.1.cell 1
  have HTR := Lib.hid (implTrim_bad A2 l c2 now t w9 HF.out (by omega) HB9.out.2.reads2 HNO.out)
  go_wp2_with fail
  refine HTR.out.mono ?_
  rintro e w10 ⟨rfl, hb10⟩
  have hbw10 := bthen hbw9 hb10
  have HSB := Lib.hid (implSame_same none none [] 0 0 0 w10 (by simp) (Sl.nil _ _ _ _) (Sl.nil _ _ _ _))
  go_wp2_with fail
  refine HSB.out.mono ?_
  rintro e w11 ⟨rfl, hb11⟩
  have hbw11 := bthen hbw10 hb11
  go_wp2
  go_ret
  exact ⟨rfl, hbw11⟩
theorem own0 : ownKnob Try.prog.godebug = none := by kernel_rfl
theorem laidOut0 : laidOutB Try.prog = true := by kernel_rfl
set_option maxRecDepth 100000 in
theorem versBent_lifted (os : Os) (started : os.Started) (H : Type) (enc : TypeId × Value → H) :
    ReturnsInHanded {} Try.checked os 6 .any (Rows.fnVersBentSpec.pre6 enc Try.prog Try.f6 Rows.fnVersBentRow.domain false) (Rows.fnVersBentSpec.post enc Try.prog Try.f6 false true false false) := by
  refine returnsInHanded_of_change (C := Try.checked) own0 started (by kernel_rfl) Try.func6
    (ChangeSpec.witness6 (enc := enc) (C := Try.checked) false ⟨#[], #[.slice none 0 0], []⟩ 8 (by kernel_rfl) (by kernel_rfl) (by kernel_rfl) (by kernel_rfl)) ?_
  intro W base args ds gs before hval0 hW hcnd _
  have hval : ∀ (j : Nat) t v, Try.f6.params[j]? = some t → args[j]? = some v → Value.okWide Try.prog W .any base t v := hval0
  have hW' := hW
  obtain ⟨p, q, hA0, hV, rfl, hfz, hnd⟩ := hW
  have hA : DataW.TrodAll enc Try.prog W 0 (fun _ => true) true Try.f6.params.toList args.toList ds p := hA0
  rw [Try.params6] at hA hval
  obtain ⟨v0, vs0, d0, ds0, p0, q0, hargs, rfl, rfl, h0, r0⟩ := trodAll_cons hA
  obtain ⟨rfl, rfl, rfl⟩ := trodAll_nil r0
  obtain rfl : args = #[v0] := by cases args; simp_all
  obtain ⟨rfl, rfl⟩ := trodVars_none hV
  have k0 := h0
  have lt0 : ∀ x ∈ p0, x.block < W.heap.size := by obtain ⟨m, hm⟩ := k0; exact DataW.trod_lt m _ _ _ hm
  obtain ⟨A0, bs0, c0, rfl, hb0, hR0⟩ := open_bytes (hval 0 22 v0 rfl rfl) h0
  clear hA0 hval0
  refine (lawVersBent A0 bs0 c0 W hb0.1 hb0.2 hR0).mono fun e W' ⟨he, bel⟩ => ?_
  subst he
  exact ⟨_, rfl, _, _, _, [], _, [], hW', trodAll_mk1 (shut_bool Try.underlying4 _), (trodAll_cons_mk (Below.trod laidOut0 (by kernel_rfl) (of_decide_eq_true (by kernel_rfl)) k0 bel lt0) trodAll_mk0), rfl, bel.frame _, fun h => by cases h⟩
theorem versBent_holds : Rows.FnVersBentSaid :=
  OpenClaim.holds_of_wide 6 Try.f6 rfl rfl rfl rfl rfl rfl rfl ⟨rfl, rfl, rfl, rfl, rfl⟩ rfl rfl rfl rfl rfl (by kernel_rfl) Try.func6 (by kernel_rfl)
    (of_decide_eq_true (by kernel_rfl)) (by unfold Func.isWrapper; first | (rw [if_pos (by decide +kernel)]; kernel_rfl) | (rw [if_neg (by decide +kernel)]; exact ⟨rfl, rfl⟩))
    (fun os started H enc _ => versBent_lifted os started H enc)
#print axioms versBent_holds
end Go.Proofs.Ytfmpohhaimgnfaa
