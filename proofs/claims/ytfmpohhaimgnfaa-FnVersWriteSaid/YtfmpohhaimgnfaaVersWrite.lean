/- FnVersWrite: commits stamp exactly what they touch. For all codes. No condition. -/
import Derived.Test.YtfmpohhaimgnfaaDrawV
import Derived.Test.YtfmpohhaimgnfaaLastV
import Derived.Test.YtfmpohhaimgnfaaBytes
namespace Go.Proofs.Ytfmpohhaimgnfaa
open Go.RowKit Go.ChangeShapes Go.WideShapes Go.ChangeAt Go.Deep
/-- a store in a box of the law's own -/
def BX (w : World) (g : Nat) (now : Int) (A : Option Addr) (l : List Ver) (c : Nat) (W : World) : Prop := Blk W g 25 #[.int .i64 now, .slice A l.length c] ∧ OwnV W w.heap.size (.slice A l.length c) l
theorem BX.below {w : World} {g : Nat} {now : Int} {A : Option Addr} {l : List Ver} {c : Nat} {W W' : World} (h : BX w g now A l c W) (hb : Below W.heap.size W W') : BX w g now A l c W' := ⟨h.1.kept hb, own_kept h.2 hb⟩
def VW (w : World) (g : Nat) (now : Int) (A : Option Addr) (l : List Ver) (c : Nat) (g' : Nat) (nw : Int) (A' : Option Addr) (L : List Ver) (c' : Nat) (v : Value) (ws : List Wri) (W : World) : Prop := BX w g now A l c W ∧ BX w g' nw A' L c' W ∧ OwnW W w.heap.size v ws ∧ Below w.heap.size w W
theorem VW.below {w : World} {g : Nat} {now : Int} {A : Option Addr} {l : List Ver} {c : Nat} {g' : Nat} {nw : Int} {A' : Option Addr} {L : List Ver} {c' : Nat} {v : Value} {ws : List Wri} {W W' : World} (h : VW w g now A l c g' nw A' L c' v ws W) (hb : Below W.heap.size W W') : VW w g now A l c g' nw A' L c' v ws W' := ⟨h.1.below hb, h.2.1.below hb, h.2.2.1.below hb, bthen h.2.2.2 hb⟩
def wantB (b : Bool) (nw lv : Int) : Int := if b = true then nw else lv
set_option maxRecDepth 100000 in
set_option maxHeartbeats 6000000 in
theorem lawVersWrite (A : Option Addr) (bs : List UInt8) (c : Nat) (w : World) (hc : bs.length ≤ c) (hm : c ≤ maxLen) (hS : Sl encU 1 w A bs) :
    Calls Try.prog 8 #[.slice A bs.length c] w fun e w' => e = .returned (.bool true) ∧ Below w.heap.size w w' := by
  go_enter Try.func8, Try.ntmps8
  by_cases hbig : 1048576 < bs.length
  · have d0 : decide ((1048576 : Int) < (bs.length : Int)) = true := decide_eq_true (by omega)
    go_wp2
    go_ret
    exact ⟨rfl, Below.refl _ _⟩
  have d0 : decide ((1048576 : Int) < (bs.length : Int)) = false := decide_eq_false (by omega)
  have HD := Lib.hid (drawDo_any A bs c w (by omega) hc hm hS)
  clear hS hbig
  go_wp2_with fail
  refine HD.out.mono ?_
  rintro e w1 ⟨now, l, v, v2, ws, rfl, ho, hw1, hf, hfw, hl, hwl, hn0, hn1, hb1⟩
  obtain ⟨A2, c2, rfl, _, _, hS2⟩ := ho.sl
  obtain ⟨Aw, cw, rfl, _, _, hSw⟩ := hw1.sl
  have hbn := (Below.refl w1.heap.size w1).alloc (Nat.le_refl _) (.cells #[.int .i64 now, .slice A2 l.length c2] 25)
  have HB5 := Lib.hid (show BX w w1.heap.size now A2 l c2 (w1.alloc (.cells #[.int .i64 now, .slice A2 l.length c2] 25)) from ⟨Blk.new w1 25 _, own_kept ho hbn⟩)
  have HWS := Lib.hid (hw1.below hbn)
  have hbw := bthen hb1 hbn
  have HF := Lib.hid hf
  have HFW := Lib.hid hfw
  clear hbn hb1 ho hS2 hSw hw1 hf hfw HD d0
  have HLEN := Lib.hid (doV_len now l ws)
  generalize hdv : doV now l ws = R at *
  have HR := Lib.hid hdv
  obtain ⟨⟨nw, L⟩, ok⟩ := R
  have hLl : L.length ≤ 67 := by have := HLEN.out; simp only at this; omega
  clear hdv HLEN
  have r0 : (w1.alloc (.cells #[.int .i64 now, .slice A2 l.length c2] 25)).cell? ⟨w1.heap.size, 0, none⟩ = some (.int .i64 now) := HB5.out.1.cell 0
  have r1 : (w1.alloc (.cells #[.int .i64 now, .slice A2 l.length c2] 25)).cell? ⟨w1.heap.size, 1, none⟩ = some (.slice A2 l.length c2) := HB5.out.1.cell 1
  have HC := Lib.hid (implVersDo_any A2 Aw l ws c2 cw now (w1.alloc (.cells #[.int .i64 now, .slice A2 l.length c2] 25)) HF.out (by omega) HFW.out (by omega) HB5.out.2.reads2 HWS.out.reads)
  rw [HR.out] at HC
  go_wp2_with fail
  generalize w1.alloc (.cells #[.int .i64 now, .slice A2 l.length c2] 25) = w2 at *
  have hg5 := HB5.out.1.lt
  generalize w1.heap.size = g5 at *
  refine HC.out.mono ?_
  rintro e w5 ⟨v5, rfl, ho5, hb5⟩
  simp only at ho5 ⊢
  obtain ⟨A9, c9, rfl, _, _, hS9⟩ := ho5.sl
  have hbn := (Below.refl w5.heap.size w5).alloc (Nat.le_refl _) (.cells #[.int .i64 nw, .slice A9 L.length c9] 25)
  have hb56 := bthen hb5 hbn
  have HB9 := Lib.hid (show BX w w5.heap.size nw A9 L c9 (w5.alloc (.cells #[.int .i64 nw, .slice A9 L.length c9] 25)) from ⟨Blk.new w5 25 _, OwnV.le (own_kept ho5 hbn : OwnV _ w2.heap.size _ _) hbw.size⟩)
  have HB5 := Lib.hid (HB5.out.below hb56)
  have HWS := Lib.hid (HWS.out.below hb56)
  have hbw6 := bthen hbw hb56
  clear HC hbn hb5 hb56 ho5 hS9 r0 r1 hbw
  have r0 : (w5.alloc (.cells #[.int .i64 nw, .slice A9 L.length c9] 25)).cell? ⟨g5, 0, none⟩ = some (.int .i64 now) := HB5.out.1.cell 0
  have r1 : (w5.alloc (.cells #[.int .i64 nw, .slice A9 L.length c9] 25)).cell? ⟨g5, 1, none⟩ = some (.slice A2 l.length c2) := HB5.out.1.cell 1
  have HC := Lib.hid (specVersDo_any A2 Aw l ws c2 cw now (w5.alloc (.cells #[.int .i64 nw, .slice A9 L.length c9] 25)) HF.out (by omega) HFW.out (by omega) HB5.out.2.reads2 HWS.out.reads)
  rw [HR.out] at HC
  go_wp2_with fail
  generalize w5.alloc (.cells #[.int .i64 nw, .slice A9 L.length c9] 25) = w6 at *
  have hg9 := HB9.out.1.lt
  generalize w5.heap.size = g9 at *
  refine HC.out.mono ?_
  rintro e w7 ⟨v7, rfl, ho7, hb7⟩
  simp only at ho7 ⊢
  obtain ⟨A11, c11, rfl, _, _, hS11⟩ := ho7.sl
  have hbn := (Below.refl w7.heap.size w7).alloc (Nat.le_refl _) (.cells #[.int .i64 nw, .slice A11 L.length c11] 25)
  have hb78 := bthen hb7 hbn
  have HB5 := Lib.hid (HB5.out.below hb78)
  have HB9 := Lib.hid (HB9.out.below hb78)
  have HWS := Lib.hid (HWS.out.below hb78)
  have hbw8 := bthen hbw6 hb78
  clear HC hbn hb7 hb78 ho7 hS11 r0 r1 hbw6
  cases ok
  case false =>
    go_wp2
    go_ret
    exact ⟨rfl, hbw8⟩
  obtain ⟨e1, e2, hv1, hv2⟩ := doV_ok HR.out
  rw [← e2, ← e1] at hv2
  have HV1 := Lib.hid hv1
  have HV2 := Lib.hid hv2
  have HFL := Lib.hid (show FitsV L from by
    rw [e2]
    exact ⟨by rw [← e2]; unfold maxLen; omega, doS_fits ws l HF.out.2 HFW.out.2⟩)
  have HLL := Lib.hid (show ∀ K, lastV K L = wantB (hitW K (valAt K now l).isSome ws) nw (lastV K l) from fun K => by rw [e2, lastV_do hv1, ← e1]; rfl)
  have HI := Lib.hid (show VW w g5 now A2 l c2 g9 nw A9 L c9 (.slice Aw ws.length cw) ws (w7.alloc (.cells #[.int .i64 nw, .slice A11 L.length c11] 25)) from ⟨HB5.out, HB9.out, HWS.out, hbw8⟩)
  have hn40 := (versB_out hv1).1.1
  clear e1 e2 HB5 HB9 HWS hbw8 hv1 hv2 HR
  go_wp2
  go_loopg [9] l.length (fun kx s9 W => ∃ k : Nat, k ≤ l.length ∧ kx = l.length - k ∧ s9 = .int .i64 k ∧ VW w g5 now A2 l c2 g9 nw A9 L c9 (.slice Aw ws.length cw) ws W)
  case atStart => exact ⟨0, Nat.zero_le _, rfl, rfl, HI.out⟩
  case round =>
    clear HI
    obtain ⟨k, hk, hg, rfl, hI⟩ := hrel
    have HI := Lib.hid hI
    clear hI
    have r0 : wr.cell? ⟨g5, 0, none⟩ = some (.int .i64 now) := HI.out.1.1.cell 0
    have r1 : wr.cell? ⟨g5, 1, none⟩ = some (.slice A2 l.length c2) := HI.out.1.1.cell 1
    by_cases hlt : k < l.length
    · obtain ⟨b, o, e2, hbl, c0, c1, c2', c3⟩ := Sl.at4 HI.out.1.2.reads2 hlt
      generalize l[k] = x at *
      obtain ⟨xk, xn, xf, xt⟩ := x
      simp only at c0 c1 c2' c3
      subst e2
      have hki : (k : Int) < (l.length : Int) := by omega
      have hki0 : (0 : Int) ≤ (k : Int) := by omega
      have HC := Lib.hid (implLast_any (some ⟨b, o, none⟩) l c2 now xk wr HF.out (by omega) HI.out.1.2.reads2)
      rw [if_pos HV1.out] at HC
      obtain ⟨lv, hlv⟩ : ∃ lv, lv = lastV xk l := ⟨_, rfl⟩
      rw [← hlv] at HC
      have HLV := Lib.hid hlv
      clear hlv c1 c2' c3
      go_wp2_with fail
      refine HC.out.mono ?_
      rintro e wa ⟨rfl, hba⟩
      have HI := Lib.hid (HI.out.below hba)
      clear HC hba r0 r1 c0
      have r0 : wa.cell? ⟨g5, 0, none⟩ = some (.int .i64 now) := HI.out.1.1.cell 0
      have r1 : wa.cell? ⟨g5, 1, none⟩ = some (.slice (some ⟨b, o, none⟩) l.length c2) := HI.out.1.1.cell 1
      have HC := Lib.hid (implAt_any (some ⟨b, o, none⟩) l c2 now now wa HF.out (by omega) HI.out.1.2.reads2)
      rw [rowsA_yes HV1.out hn40 (Int.le_refl _)] at HC
      have HGH := Lib.hid (getR_had (K := xk) HV1.out)
      have HFR := Lib.hid (atL_fits HF.out (t := now))
      have hal := atL_le l now
      generalize atL l now = RR at *
      go_wp2_with fail
      refine HC.out.mono ?_
      rintro e wb ⟨vb, rfl, hob, hbb⟩
      obtain ⟨A6, c6, rfl, _, _, hS6⟩ := hob.sl
      have HI := Lib.hid (HI.out.below hbb)
      have HC := Lib.hid (rowsGet_any A6 RR c6 xk wb HFR.out (by omega) hS6)
      obtain ⟨hb, hhb⟩ : ∃ hb, hb = (valAt xk now l).isSome := ⟨_, rfl⟩
      have HHB := Lib.hid hhb
      rw [HGH.out, ← hhb] at HC
      clear hob hS6 hbb hhb r0 r1
      go_wp2_with fail
      refine HC.out.mono ?_
      rintro e wc ⟨rfl, hbc⟩
      have HI := Lib.hid (HI.out.below hbc)
      clear HC hbc HGH HFR hal
      go_wp2
      go_loopg [11, 14] ws.length (fun kx s11 s14 W => ∃ j : Nat, j ≤ ws.length ∧ kx = ws.length - j ∧ s11 = .int .i64 (wantB (hitW xk hb (ws.take j)) nw lv) ∧ s14 = .int .i64 j ∧ VW w g5 now (some ⟨b, o, none⟩) l c2 g9 nw A9 L c9 (.slice Aw ws.length cw) ws W)
      case atStart => exact ⟨0, Nat.zero_le _, rfl, rfl, rfl, HI.out⟩
      case round =>
        clear HI
        obtain ⟨j, hj, hg2, rfl, rfl, hI⟩ := hrel
        have HI := Lib.hid hI
        clear hI
        by_cases hlj : j < ws.length
        · have HT := Lib.hid (hitW_take (K := xk) (b := hb) hlj)
          obtain ⟨b3, o3, e3, hbl3, d0, d1, d2⟩ := Sl.at3 HI.out.2.2.1.reads hlj
          generalize ws[j] = y at *
          obtain ⟨yk, yn, yg⟩ := y
          simp only at d0 d1 d2 HT
          subst e3
          have t0 : wr.cell? ⟨g9, 0, none⟩ = some (.int .i64 nw) := HI.out.2.1.1.cell 0
          have hji : (j : Int) < (ws.length : Int) := by omega
          have hji0 : (0 : Int) ≤ (j : Int) := by omega
          by_cases he : yk = xk
          · cases hb
            · cases yg
              · have HT2 : Hid (hitW xk false (ws.take (j + 1)) = true) := Lib.hid (by rw [HT.out]; simp [he])
                clear HT
                go_wp2
                go_roundg (ws.length - (j + 1))
                case measure => omega
                case rel => exact ⟨j + 1, by omega, by omega, by rw [HT2.out]; rfl, by go_num, HI.out⟩
              · have HT2 : Hid (hitW xk false (ws.take (j + 1)) = hitW xk false (ws.take j)) := Lib.hid (by rw [HT.out]; simp)
                clear HT
                go_wp2
                go_roundg (ws.length - (j + 1))
                case measure => omega
                case rel => exact ⟨j + 1, by omega, by omega, by rw [HT2.out], by go_num, HI.out⟩
            · have HT2 : Hid (hitW xk true (ws.take (j + 1)) = true) := Lib.hid (by rw [HT.out]; simp [he])
              clear HT
              go_wp2
              go_roundg (ws.length - (j + 1))
              case measure => omega
              case rel => exact ⟨j + 1, by omega, by omega, by rw [HT2.out]; rfl, by go_num, HI.out⟩
          · have HT2 : Hid (hitW xk hb (ws.take (j + 1)) = hitW xk hb (ws.take j)) := Lib.hid (by rw [HT.out]; simp [he])
            have p4 : (yk.toList == xk.toList) = false := by rw [bytes_beq]; simpa using he
            clear HT he
            go_wp2
            go_roundg (ws.length - (j + 1))
            case measure => omega
            case rel => exact ⟨j + 1, by omega, by omega, by rw [HT2.out], by go_num, HI.out⟩
        · obtain rfl : j = ws.length := by omega
          rw [List.take_length] at *
          have t0 : wr.cell? ⟨g9, 0, none⟩ = some (.int .i64 nw) := HI.out.2.1.1.cell 0
          have t1 : wr.cell? ⟨g9, 1, none⟩ = some (.slice A9 L.length c9) := HI.out.2.1.1.cell 1
          have HC := Lib.hid (implLast_any A9 L c9 nw xk wr HFL.out (by omega) HI.out.2.1.2.reads2)
          rw [if_pos HV2.out, HLL.out, ← HLV.out, ← HHB.out] at HC
          generalize wantB (hitW xk hb ws) nw lv = wt at *
          go_wp2_with fail
          refine HC.out.mono ?_
          rintro e wd ⟨rfl, hbd⟩
          have HI := Lib.hid (HI.out.below hbd)
          clear HC hbd t0 t1
          go_wp2
          go_roundg (l.length - (k + 1))
          case measure => omega
          case rel => exact ⟨k + 1, by omega, by omega, by go_num, HI.out⟩
    · obtain rfl : k = l.length := by omega
      go_wp2
      go_ret
      exact ⟨rfl, HI.out.2.2.2⟩
theorem own0 : ownKnob Try.prog.godebug = none := by kernel_rfl
theorem laidOut0 : laidOutB Try.prog = true := by kernel_rfl
set_option maxRecDepth 100000 in
theorem versWrite_lifted (os : Os) (started : os.Started) (H : Type) (enc : TypeId × Value → H) :
    ReturnsInHanded {} Try.checked os 8 .any (Rows.fnVersWriteSpec.pre6 enc Try.prog Try.f8 Rows.fnVersWriteRow.domain false) (Rows.fnVersWriteSpec.post enc Try.prog Try.f8 false true false false) := by
  refine returnsInHanded_of_change (C := Try.checked) own0 started (by kernel_rfl) Try.func8
    (ChangeSpec.witness6 (enc := enc) (C := Try.checked) false ⟨#[], #[.slice none 0 0], []⟩ 8 (by kernel_rfl) (by kernel_rfl) (by kernel_rfl) (by kernel_rfl)) ?_
  intro W base args ds gs before hval0 hW hcnd _
  have hval : ∀ (j : Nat) t v, Try.f8.params[j]? = some t → args[j]? = some v → Value.okWide Try.prog W .any base t v := hval0
  have hW' := hW
  obtain ⟨p, q, hA0, hV, rfl, hfz, hnd⟩ := hW
  have hA : DataW.TrodAll enc Try.prog W 0 (fun _ => true) true Try.f8.params.toList args.toList ds p := hA0
  rw [Try.params8] at hA hval
  obtain ⟨v0, vs0, d0, ds0, p0, q0, hargs, rfl, rfl, h0, r0⟩ := trodAll_cons hA
  obtain ⟨rfl, rfl, rfl⟩ := trodAll_nil r0
  obtain rfl : args = #[v0] := by cases args; simp_all
  obtain ⟨rfl, rfl⟩ := trodVars_none hV
  have k0 := h0
  have lt0 : ∀ x ∈ p0, x.block < W.heap.size := by obtain ⟨m, hm⟩ := k0; exact DataW.trod_lt m _ _ _ hm
  obtain ⟨A0, bs0, c0, rfl, hb0, hR0⟩ := open_bytes (hval 0 22 v0 rfl rfl) h0
  clear hA0 hval0
  refine (lawVersWrite A0 bs0 c0 W hb0.1 hb0.2 hR0).mono fun e W' ⟨he, bel⟩ => ?_
  subst he
  exact ⟨_, rfl, _, _, _, [], _, [], hW', trodAll_mk1 (shut_bool Try.underlying4 _), (trodAll_cons_mk (Below.trod laidOut0 (by kernel_rfl) (of_decide_eq_true (by kernel_rfl)) k0 bel lt0) trodAll_mk0), rfl, bel.frame _, fun h => by cases h⟩
theorem versWrite_holds : Rows.FnVersWriteSaid :=
  OpenClaim.holds_of_wide 8 Try.f8 rfl rfl rfl rfl rfl rfl rfl ⟨rfl, rfl, rfl, rfl, rfl⟩ rfl rfl rfl rfl rfl (by kernel_rfl) Try.func8 (by kernel_rfl)
    (of_decide_eq_true (by kernel_rfl)) (by unfold Func.isWrapper; first | (rw [if_pos (by decide +kernel)]; kernel_rfl) | (rw [if_neg (by decide +kernel)]; exact ⟨rfl, rfl⟩))
    (fun os started H enc _ => versWrite_lifted os started H enc)
#print axioms versWrite_holds

end Go.Proofs.Ytfmpohhaimgnfaa
