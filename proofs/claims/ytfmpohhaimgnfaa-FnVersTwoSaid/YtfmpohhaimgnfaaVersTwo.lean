/- FnVersTwo: what is done at two times is done one behind the other: the rows in between are those behind the first. For all codes. No condition. -/
import Derived.Test.YtfmpohhaimgnfaaDrawV
import Derived.Test.YtfmpohhaimgnfaaSame
import Derived.Test.YtfmpohhaimgnfaaPlainV
import Derived.Test.YtfmpohhaimgnfaaBytes
import Derived.Deep.RegionHeld3
import Derived.BigQuiet
namespace Go.Proofs.Ytfmpohhaimgnfaa
open Go.RowKit Go.ChangeShapes Go.WideShapes Go.ChangeAt Go.Deep
/-- a store in a box of the law's own -/
def BT (w : World) (g : Nat) (now : Int) (A : Option Addr) (l : List Ver) (c : Nat) (W : World) : Prop := Blk W g 25 #[.int .i64 now, .slice A l.length c] ∧ OwnV W w.heap.size (.slice A l.length c) l
theorem BT.below {w : World} {g : Nat} {now : Int} {A : Option Addr} {l : List Ver} {c : Nat} {W W' : World} (h : BT w g now A l c W) (hb : Below W.heap.size W W') : BT w g now A l c W' := ⟨h.1.kept hb, own_kept h.2 hb⟩
set_option maxRecDepth 100000 in
set_option maxHeartbeats 6000000 in
theorem lawVersTwo (A : Option Addr) (bs : List UInt8) (c : Nat) (A' : Option Addr) (bs' : List UInt8) (c' : Nat) (w : World) (hc : bs.length ≤ c) (hm : c ≤ maxLen) (hS : Sl encU 1 w A bs) (hc' : bs'.length ≤ c') (hm' : c' ≤ maxLen) (hS' : Sl encU 1 w A' bs') :
    Calls Try.prog 3 #[.slice A bs.length c, .slice A' bs'.length c'] w fun e w' => e = .returned (.bool true) ∧ Below w.heap.size w w' := by
  go_enter Try.func3, Try.ntmps3
  by_cases hbig : 1048576 < bs.length
  · have d0 : decide ((1048576 : Int) < (bs.length : Int)) = true := decide_eq_true (by omega)
    go_wp2
    go_ret
    exact ⟨rfl, Below.refl _ _⟩
  have d0 : decide ((1048576 : Int) < (bs.length : Int)) = false := decide_eq_false (by omega)
  by_cases hbig2 : 1048576 < bs'.length
  · have d1 : decide ((1048576 : Int) < (bs'.length : Int)) = true := decide_eq_true (by omega)
    go_wp2
    go_ret
    exact ⟨rfl, Below.refl _ _⟩
  have d1 : decide ((1048576 : Int) < (bs'.length : Int)) = false := decide_eq_false (by omega)
  have HD := Lib.hid (drawDo_any A bs c w (by omega) hc hm hS)
  have HS' := Lib.hid hS'
  have hl1 : bs'.length ≤ 1048576 := by omega
  clear hS hS' hbig hbig2
  go_wp2_with fail
  refine HD.out.mono ?_
  rintro e w1 ⟨now, l, v, v2, ws, rfl, ho, hw1, hf, hfw, hl, hwl, hn0, hn1, hb1⟩
  obtain ⟨A2, c2, rfl, _, _, hS2⟩ := ho.sl
  obtain ⟨Aw, cw, rfl, _, _, hSw⟩ := hw1.sl
  have hbn := (Below.refl w1.heap.size w1).alloc (Nat.le_refl _) (.cells #[.int .i64 now, .slice A2 l.length c2] 25)
  have HB5 := Lib.hid (show BT w w1.heap.size now A2 l c2 (w1.alloc (.cells #[.int .i64 now, .slice A2 l.length c2] 25)) from ⟨Blk.new w1 25 _, own_kept ho hbn⟩)
  have HWS := Lib.hid (hw1.below hbn)
  have hbw := bthen hb1 hbn
  have HF := Lib.hid hf
  have HFW := Lib.hid hfw
  have HD2 := Lib.hid (drawDo_any A' bs' c' (w1.alloc (.cells #[.int .i64 now, .slice A2 l.length c2] 25)) hl1 hc' hm' (HS'.out.below hbw))
  clear hbn hb1 ho hS2 hSw hw1 hf hfw HD d0 d1
  go_wp2_with fail
  generalize w1.alloc (.cells #[.int .i64 now, .slice A2 l.length c2] 25) = w2 at *
  have hg5 := HB5.out.1.lt
  generalize w1.heap.size = g5 at *
  refine HD2.out.mono ?_
  rintro e w3 ⟨now', l', v', v2', ns, rfl, ho', hn1', _, hfn, _, hnl, _, _, hb3⟩
  obtain ⟨A7, c7, rfl, _, _, hS7⟩ := ho'.sl
  obtain ⟨An, cn, rfl, _, _, hSn⟩ := hn1'.sl
  have hbn := (Below.refl w3.heap.size w3).alloc (Nat.le_refl _) (.cells #[.int .i64 now', .slice A7 l'.length c7] 25)
  have hb34 := bthen hb3 hbn
  have HB5 := Lib.hid (HB5.out.below hb34)
  have HWS := Lib.hid (HWS.out.below hb34)
  have HNS := Lib.hid (hn1'.below hbn)
  have HFN := Lib.hid hfn
  have hbw4 := bthen hbw hb34
  clear HD2 hbn hb3 hb34 ho' hn1' hfn hS7 hSn hbw
  have HLEN := Lib.hid (doV_len now l ws)
  generalize hdv : doV now l ws = R at *
  have HR := Lib.hid hdv
  obtain ⟨⟨nw, L⟩, ok⟩ := R
  have hLl : L.length ≤ 67 := by have := HLEN.out; simp only at this; omega
  clear hdv HLEN
  have r0 : (w3.alloc (.cells #[.int .i64 now', .slice A7 l'.length c7] 25)).cell? ⟨g5, 0, none⟩ = some (.int .i64 now) := HB5.out.1.cell 0
  have r1 : (w3.alloc (.cells #[.int .i64 now', .slice A7 l'.length c7] 25)).cell? ⟨g5, 1, none⟩ = some (.slice A2 l.length c2) := HB5.out.1.cell 1
  have HC := Lib.hid (implVersDo_any A2 Aw l ws c2 cw now _ HF.out (by omega) HFW.out (by omega) HB5.out.2.reads2 HWS.out.reads)
  rw [HR.out] at HC
  go_wp2_with fail
  generalize w3.alloc (.cells #[.int .i64 now', .slice A7 l'.length c7] 25) = w4 at *
  refine HC.out.mono ?_
  rintro e w5 ⟨v5, rfl, ho5, hb5⟩
  simp only at ho5 ⊢
  obtain ⟨A9, c9, rfl, _, _, hS9⟩ := ho5.sl
  have hbn := (Below.refl w5.heap.size w5).alloc (Nat.le_refl _) (.cells #[.int .i64 nw, .slice A9 L.length c9] 25)
  have hb56 := bthen hb5 hbn
  have HB9 := Lib.hid (show BT w w5.heap.size nw A9 L c9 (w5.alloc (.cells #[.int .i64 nw, .slice A9 L.length c9] 25)) from ⟨Blk.new w5 25 _, OwnV.le (own_kept ho5 hbn : OwnV _ w4.heap.size _ _) hbw4.size⟩)
  have HB5 := Lib.hid (HB5.out.below hb56)
  have HWS := Lib.hid (HWS.out.below hb56)
  have HNS := Lib.hid (HNS.out.below hb56)
  have hbw6 := bthen hbw4 hb56
  clear HC hbn hb5 hb56 ho5 hS9 r0 r1 hbw4
  have r0 : (w5.alloc (.cells #[.int .i64 nw, .slice A9 L.length c9] 25)).cell? ⟨g5, 0, none⟩ = some (.int .i64 now) := HB5.out.1.cell 0
  have r1 : (w5.alloc (.cells #[.int .i64 nw, .slice A9 L.length c9] 25)).cell? ⟨g5, 1, none⟩ = some (.slice A2 l.length c2) := HB5.out.1.cell 1
  have HC := Lib.hid (specVersDo_any A2 Aw l ws c2 cw now _ HF.out (by omega) HFW.out (by omega) HB5.out.2.reads2 HWS.out.reads)
  rw [HR.out] at HC
  go_wp2_with fail
  generalize w5.alloc (.cells #[.int .i64 nw, .slice A9 L.length c9] 25) = w6 at *
  have hg9 := HB9.out.1.lt
  generalize w5.heap.size = g9 at *
  refine HC.out.mono ?_
  rintro e w7 ⟨v7, rfl, ho7, hb7⟩
  simp only at ho7 ⊢
  obtain ⟨A11, c11, rfl, _, _, hS11⟩ := ho7.sl
  have hbn := (Below.refl w7.heap.size w7).alloc (Nat.le_refl _) (.cells #[.int .i64 nw, .slice A11 L.length c11] 25)
  have hb78 := bthen hb7 hbn
  have HB5 := Lib.hid (HB5.out.below hb78)
  have HB9 := Lib.hid (HB9.out.below hb78)
  have HNS := Lib.hid (HNS.out.below hb78)
  have hbw8 := bthen hbw6 hb78
  clear HC hbn hb7 hb78 ho7 hS11 r0 r1 hbw6 HWS
  have r0 : (w7.alloc (.cells #[.int .i64 nw, .slice A11 L.length c11] 25)).cell? ⟨g9, 0, none⟩ = some (.int .i64 nw) := HB9.out.1.cell 0
  have r1 : (w7.alloc (.cells #[.int .i64 nw, .slice A11 L.length c11] 25)).cell? ⟨g9, 1, none⟩ = some (.slice A9 L.length c9) := HB9.out.1.cell 1
  cases ok
  case false =>
    go_wp2
    go_ret
    exact ⟨rfl, hbw8⟩
  have HOK := Lib.hid (doV_ok HR.out)
  have HFL := Lib.hid (show FitsV L from by
    obtain ⟨_, e2, _, _⟩ := HOK.out
    rw [e2]
    exact ⟨by rw [← e2]; unfold maxLen; omega, doS_fits ws l HF.out.2 HFW.out.2⟩)
  have HLEN := Lib.hid (doV_len nw L ns)
  generalize hdv : doV nw L ns = R2 at *
  have HR2 := Lib.hid hdv
  obtain ⟨⟨ny, M⟩, fine⟩ := R2
  have hMl : M.length ≤ 73 := by have := HLEN.out; simp only at this; omega
  clear hdv
  have HC := Lib.hid (implVersDo_any A9 An L ns c9 cn nw _ HFL.out (by omega) HFN.out (by omega) HB9.out.2.reads2 HNS.out.reads)
  rw [HR2.out] at HC
  go_wp2_with fail
  generalize w7.alloc (.cells #[.int .i64 nw, .slice A11 L.length c11] 25) = w8 at *
  refine HC.out.mono ?_
  rintro e w9 ⟨v9, rfl, ho9, hb9⟩
  simp only at ho9 ⊢
  obtain ⟨A13, c13, rfl, _, _, hS13⟩ := ho9.sl
  have hbn := (Below.refl w9.heap.size w9).alloc (Nat.le_refl _) (.cells #[.int .i64 ny, .slice A13 M.length c13] 25)
  have hb910 := bthen hb9 hbn
  have HB13 := Lib.hid (show BT w w9.heap.size ny A13 M c13 (w9.alloc (.cells #[.int .i64 ny, .slice A13 M.length c13] 25)) from ⟨Blk.new w9 25 _, OwnV.le (own_kept ho9 hbn : OwnV _ w8.heap.size _ _) hbw8.size⟩)
  have HB5 := Lib.hid (HB5.out.below hb910)
  have HB9 := Lib.hid (HB9.out.below hb910)
  have hbw10 := bthen hbw8 hb910
  have hg99 := hb9.size
  clear HC hbn hb9 hb910 ho9 hS13 r0 r1 hbw8 HNS
  cases fine
  case false =>
    go_wp2_with fail
    refine wp_region_below (by kernel_rfl) (by kernel_rfl) ?_
    iterate 37 (first | go_big_quiet_skip | (refine wpQuiet_step (fun K hK => ?_); go_simp; first | (apply Exists.intro; refine ⟨fun W hW => ?_, hK _ ?_⟩; (first | rfl | (skip; go_simp; rfl)); clear hK K) | (refine hK _ ?_; clear hK K)))
    refine wpQuiet_nil ?_
    intro W hW
    have hend := bthen hbw10 hW
    go_wp2
    go_ret
    exact ⟨rfl, hend⟩
  obtain ⟨e1, e2, hv1, hv2⟩ := HOK.out
  obtain ⟨e3, e4, hv3, hv4⟩ := doV_ok HR2.out
  have hlen1 := doS_len (now + 1) ws l
  have hlen2 := doS_len (nw + 1) ns L
  rw [← e2] at hlen1 hv2
  rw [← e4] at hlen2 hv4
  have hat : atL M (now + 1) = atL L (now + 1) := by rw [e4]; exact atL_do (by omega) ns L
  have HFM := Lib.hid (show FitsV M from ⟨by unfold maxLen; omega, by rw [e4]; exact doS_fits ns L HFL.out.2 HFN.out.2⟩)
  clear e2 e4 HOK HR HR2 hv3
  have e5 : ny = now + 2 := by omega
  have hn40 := (versB_out hv2).1.2.1
  have hnn := (versB_out hv1).1.1
  have HRX := Lib.hid (show rowsA ny M nw = atL L nw from (rowsA_yes (by rw [e3]; exact hv4) (t := nw) (by omega) (by omega)).trans (by rw [e1]; exact hat))
  have HRY := Lib.hid (show rowsA nw L nw = atL L nw from rowsA_yes (by rw [e1]; exact hv2) (t := nw) (by omega) (Int.le_refl _))
  have hal := atL_le L nw
  have hwp : IntKind.i64.wrap (now + 2) = ny := by rw [e5, IntKind.wrap_i64]; omega
  clear hat hv2 hv4
  generalize atL L nw = R at *
  have hws1 : IntKind.i64.wrap ((l.length : Int) + (ws.length : Int)) = (l.length : Int) + (ws.length : Int) := IntWalk.i64_in _ (by omega)
  have hws2 : IntKind.i64.wrap ((l.length : Int) + (ws.length : Int) + (ns.length : Int)) = (l.length : Int) + (ws.length : Int) + (ns.length : Int) := IntWalk.i64_in _ (by omega)
  have dle : decide ((M.length : Int) ≤ (l.length : Int) + (ws.length : Int) + (ns.length : Int)) = true := decide_eq_true (by omega)
  have dln : (M.length : Int) ≤ (l.length : Int) + (ws.length : Int) + (ns.length : Int) := by omega
  have hbd := (Below.refl (w9.alloc (.cells #[.int .i64 ny, .slice A13 M.length c13] 25)).heap.size (w9.alloc (.cells #[.int .i64 ny, .slice A13 M.length c13] 25))).drew
  have s0 : (w9.alloc (.cells #[.int .i64 ny, .slice A13 M.length c13] 25)).cell? ⟨g5, 0, none⟩ = some (.int .i64 now) := HB5.out.1.cell 0
  have s1 : (w9.alloc (.cells #[.int .i64 ny, .slice A13 M.length c13] 25)).cell? ⟨g5, 1, none⟩ = some (.slice A2 l.length c2) := HB5.out.1.cell 1
  have s2 : (w9.alloc (.cells #[.int .i64 ny, .slice A13 M.length c13] 25)).cell? ⟨g9, 0, none⟩ = some (.int .i64 nw) := HB9.out.1.cell 0
  have s3 : (w9.alloc (.cells #[.int .i64 ny, .slice A13 M.length c13] 25)).cell? ⟨g9, 1, none⟩ = some (.slice A9 L.length c9) := HB9.out.1.cell 1
  have s4 : (w9.alloc (.cells #[.int .i64 ny, .slice A13 M.length c13] 25)).cell? ⟨w9.heap.size, 0, none⟩ = some (.int .i64 ny) := HB13.out.1.cell 0
  have s5 : (w9.alloc (.cells #[.int .i64 ny, .slice A13 M.length c13] 25)).cell? ⟨w9.heap.size, 1, none⟩ = some (.slice A13 M.length c13) := HB13.out.1.cell 1
  have HB5 := Lib.hid (HB5.out.below hbd)
  have HB9 := Lib.hid (HB9.out.below hbd)
  have HB13 := Lib.hid (HB13.out.below hbd)
  have HBW := Lib.hid (bthen hbw10 hbd)
  clear hbd hbw10 hv1 hlen1 hlen2 HLEN hn40 hnn e1 e3 e5
  go_wp2_with fail
  generalize w9.alloc (.cells #[.int .i64 ny, .slice A13 M.length c13] 25) = w10 at *
  generalize w9.heap.size = g13 at *
  go_region_held3 (fun W => W.cell? ⟨g5, 0, none⟩ = some (.int .i64 now) ∧ W.cell? ⟨g5, 1, none⟩ = some (.slice A2 l.length c2) ∧ W.cell? ⟨g9, 0, none⟩ = some (.int .i64 nw) ∧ W.cell? ⟨g9, 1, none⟩ = some (.slice A9 L.length c9) ∧ W.cell? ⟨g13, 0, none⟩ = some (.int .i64 ny) ∧ W.cell? ⟨g13, 1, none⟩ = some (.slice A13 M.length c13))
    (first | assumption | go_keep)
    (first
      | (go_at_call 18
         refine (wpRows_same AX AY R cX cY _ (by omega) HX.out.reads HY.out.reads).mono ?_
         rintro e wk ⟨rfl, hbk⟩
         have HB5 := Lib.hid (HB5.out.below hbk)
         have HB9 := Lib.hid (HB9.out.below hbk)
         have HB13 := Lib.hid (HB13.out.below hbk)
         have HBW := Lib.hid (bthen HBW.out hbk)
         have hkk : wk.cell? ⟨g5, 0, none⟩ = some (.int .i64 now) ∧ wk.cell? ⟨g5, 1, none⟩ = some (.slice A2 l.length c2) ∧ wk.cell? ⟨g9, 0, none⟩ = some (.int .i64 nw) ∧ wk.cell? ⟨g9, 1, none⟩ = some (.slice A9 L.length c9) ∧ wk.cell? ⟨g13, 0, none⟩ = some (.int .i64 ny) ∧ wk.cell? ⟨g13, 1, none⟩ = some (.slice A13 M.length c13) := ⟨HB5.out.1.cell 0, HB5.out.1.cell 1, HB9.out.1.cell 0, HB9.out.1.cell 1, HB13.out.1.cell 0, HB13.out.1.cell 1⟩
         clear hbk)
      | (go_at_call 19
         refine (implAt_any _ _ _ _ _ _ ?_ ?_ ?_).mono ?_
         (first | exact HFM.out | exact HFL.out)
         omega
         (first | exact HB13.out.2.reads2 | exact HB9.out.2.reads2)
         rintro e wk ⟨vk, rfl, hok, hbk⟩
         first
           | (rw [HRX.out] at hok
              obtain ⟨AX, cX, rfl, _, _, hSX⟩ := hok.sl
              have HX := Lib.hid hok
              try have HY := Lib.hid (HY.out.below hbk)
              clear hSX)
           | (rw [HRY.out] at hok
              obtain ⟨AY, cY, rfl, _, _, hSY⟩ := hok.sl
              have HY := Lib.hid hok
              try have HX := Lib.hid (HX.out.below hbk)
              clear hSY)
         have HB5 := Lib.hid (HB5.out.below hbk)
         have HB9 := Lib.hid (HB9.out.below hbk)
         have HB13 := Lib.hid (HB13.out.below hbk)
         have HBW := Lib.hid (bthen HBW.out hbk)
         have hkk : wk.cell? ⟨g5, 0, none⟩ = some (.int .i64 now) ∧ wk.cell? ⟨g5, 1, none⟩ = some (.slice A2 l.length c2) ∧ wk.cell? ⟨g9, 0, none⟩ = some (.int .i64 nw) ∧ wk.cell? ⟨g9, 1, none⟩ = some (.slice A9 L.length c9) ∧ wk.cell? ⟨g13, 0, none⟩ = some (.int .i64 ny) ∧ wk.cell? ⟨g13, 1, none⟩ = some (.slice A13 M.length c13) := ⟨HB5.out.1.cell 0, HB5.out.1.cell 1, HB9.out.1.cell 0, HB9.out.1.cell 1, HB13.out.1.cell 0, HB13.out.1.cell 1⟩
         clear hok hbk))
  all_goals
    go_wp2
    go_ret
    exact ⟨rfl, HBW.out⟩
theorem own0 : ownKnob Try.prog.godebug = none := by kernel_rfl
theorem laidOut0 : laidOutB Try.prog = true := by kernel_rfl
set_option maxRecDepth 100000 in
theorem versTwo_lifted (os : Os) (started : os.Started) (H : Type) (enc : TypeId × Value → H) :
    ReturnsInHanded {} Try.checked os 3 .any (Rows.fnVersTwoSpec.pre6 enc Try.prog Try.f3 Rows.fnVersTwoRow.domain false) (Rows.fnVersTwoSpec.post enc Try.prog Try.f3 false true false false) := by
  refine returnsInHanded_of_change (C := Try.checked) own0 started (by kernel_rfl) Try.func3
    (ChangeSpec.witness6 (enc := enc) (C := Try.checked) false ⟨#[], #[.slice none 0 0, .slice none 0 0], []⟩ 8 (by kernel_rfl) (by kernel_rfl) (by kernel_rfl) (by kernel_rfl)) ?_
  intro W base args ds gs before hval0 hW hcnd _
  have hval : ∀ (j : Nat) t v, Try.f3.params[j]? = some t → args[j]? = some v → Value.okWide Try.prog W .any base t v := hval0
  have hW' := hW
  obtain ⟨p, q, hA0, hV, rfl, hfz, hnd⟩ := hW
  have hA : DataW.TrodAll enc Try.prog W 0 (fun _ => true) true Try.f3.params.toList args.toList ds p := hA0
  rw [Try.params3] at hA hval
  obtain ⟨v0, vs0, d0, ds0, p0, q0, hargs, rfl, rfl, h0, r0⟩ := trodAll_cons hA
  obtain ⟨v1, vs1, d1, ds1, p1, q1, rfl, rfl, rfl, h1, r1⟩ := trodAll_cons r0
  obtain ⟨rfl, rfl, rfl⟩ := trodAll_nil r1
  obtain rfl : args = #[v0, v1] := by cases args; simp_all
  obtain ⟨rfl, rfl⟩ := trodVars_none hV
  have k0 := h0
  have lt0 : ∀ x ∈ p0, x.block < W.heap.size := by obtain ⟨m, hm⟩ := k0; exact DataW.trod_lt m _ _ _ hm
  have k1 := h1
  have lt1 : ∀ x ∈ p1, x.block < W.heap.size := by obtain ⟨m, hm⟩ := k1; exact DataW.trod_lt m _ _ _ hm
  obtain ⟨A0, bs0, c0, rfl, hb0, hR0⟩ := open_bytes (hval 0 22 v0 rfl rfl) h0
  obtain ⟨A1, bs1, c1, rfl, hb1, hR1⟩ := open_bytes (hval 1 22 v1 rfl rfl) h1
  clear hA0 hval0
  refine (lawVersTwo A0 bs0 c0 A1 bs1 c1 W hb0.1 hb0.2 hR0 hb1.1 hb1.2 hR1).mono fun e W' ⟨he, bel⟩ => ?_
  subst he
  exact ⟨_, rfl, _, _, _, [], _, [], hW', trodAll_mk1 (shut_bool Try.underlying4 _), (trodAll_cons_mk (Below.trod laidOut0 (by kernel_rfl) (of_decide_eq_true (by kernel_rfl)) k0 bel lt0) (trodAll_cons_mk (Below.trod laidOut0 (by kernel_rfl) (of_decide_eq_true (by kernel_rfl)) k1 bel lt1) trodAll_mk0)), rfl, bel.frame _, fun h => by cases h⟩
theorem versTwo_holds : Rows.FnVersTwoSaid :=
  OpenClaim.holds_of_wide 3 Try.f3 rfl rfl rfl rfl rfl rfl rfl ⟨rfl, rfl, rfl, rfl, rfl⟩ rfl rfl rfl rfl rfl (by kernel_rfl) Try.func3 (by kernel_rfl)
    (of_decide_eq_true (by kernel_rfl)) (by unfold Func.isWrapper; first | (rw [if_pos (by decide +kernel)]; kernel_rfl) | (rw [if_neg (by decide +kernel)]; exact ⟨rfl, rfl⟩))
    (fun os started H enc _ => versTwo_lifted os started H enc)
#print axioms versTwo_holds
end Go.Proofs.Ytfmpohhaimgnfaa
