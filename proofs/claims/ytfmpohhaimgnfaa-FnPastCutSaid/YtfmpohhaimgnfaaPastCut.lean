/- FnPastCut: what is done one behind the other up to a time leaves the rows of that time. For all codes. No condition. -/
import Derived.Test.YtfmpohhaimgnfaaL8Past
import Derived.Test.YtfmpohhaimgnfaaFoldI
import Derived.Test.YtfmpohhaimgnfaaFoldS
import Derived.Test.YtfmpohhaimgnfaaSame
import Derived.Test.YtfmpohhaimgnfaaPlainV
import Derived.Test.YtfmpohhaimgnfaaBytes
import Derived.Deep.RegionHeld3
namespace Go.Proofs.Ytfmpohhaimgnfaa
open Go.RowKit Go.ChangeShapes Go.WideShapes Go.ChangeAt Go.Deep
theorem goF_ok : ∀ (rs : List (List Wri)) (now n : Int) (l L : List Ver), goF now l rs = ((n, L), true) → versB now l = true → n = now + rs.length ∧ versB n L = true ∧ ∀ t, t ≤ now → atL L t = atL l t := by
  intro rs
  induction rs with
  | nil =>
    intro now n l L h hv
    rw [goF_nil] at h
    simp only [Prod.mk.injEq, and_true] at h
    obtain ⟨rfl, rfl⟩ := h
    exact ⟨by simp, hv, fun t _ => rfl⟩
  | cons r rs ih =>
    intro now n l L h hv
    cases h1 : wrsB 20 r
    · rw [goF_row h1] at h; simp at h
    · cases h2 : versB (now + 1) (doS (now + 1) l r)
      · rw [goF_bad h1 h2] at h; simp at h
      · rw [goF_on h1 h2] at h
        obtain ⟨h3, h4, h5⟩ := ih _ _ _ _ h h2
        refine ⟨by rw [h3, List.length_cons]; push_cast; omega, h4, fun t ht => ?_⟩
        rw [h5 t (by omega), atL_do (by omega)]
theorem goF_take : ∀ (rs : List (List Wri)) (k : Nat) (now n : Int) (l L : List Ver), goF now l rs = ((n, L), true) → versB now l = true → k ≤ rs.length → ∃ M, goF now l (rs.take k) = ((now + k, M), true) ∧ versB (now + k) M = true ∧ atL L (now + k) = atL M (now + k) := by
  intro rs
  induction rs with
  | nil =>
    intro k now n l L h hv hk
    obtain rfl : k = 0 := by simpa using hk
    obtain ⟨_, _, h3⟩ := goF_ok [] now n l L h hv
    exact ⟨l, by simp [goF_nil], by simpa using hv, by rw [h3 _ (by simp)]⟩
  | cons r rs ih =>
    intro k now n l L h hv hk
    cases k with
    | zero =>
      obtain ⟨_, _, h3⟩ := goF_ok (r :: rs) now n l L h hv
      exact ⟨l, by simp [goF_nil], by simpa using hv, by rw [h3 _ (by simp)]⟩
    | succ k =>
      cases h1 : wrsB 20 r
      · rw [goF_row h1] at h; simp at h
      · cases h2 : versB (now + 1) (doS (now + 1) l r)
        · rw [goF_bad h1 h2] at h; simp at h
        · rw [goF_on h1 h2] at h
          obtain ⟨M, h3, h4, h5⟩ := ih k _ _ _ _ h h2 (by simpa using hk)
          have e : now + 1 + (k : Int) = now + ((k + 1 : Nat) : Int) := by push_cast; omega
          rw [e] at h3 h4 h5
          exact ⟨M, by rw [List.take_succ_cons, goF_on h1 h2, h3], h4, h5⟩
theorem goF_fits : ∀ (rs : List (List Wri)) (now n : Int) (l L : List Ver) (b : Bool), goF now l rs = ((n, L), b) → FitsV l → l.length ≤ 60 → (∀ r ∈ rs, FitsW r) → FitsV L := by
  intro rs
  induction rs with
  | nil =>
    intro now n l L b h hf _ _
    rw [goF_nil] at h
    simp only [Prod.mk.injEq] at h
    obtain ⟨⟨_, rfl⟩, _⟩ := h
    exact hf
  | cons r rs ih =>
    intro now n l L b h hf hl hr
    cases h1 : wrsB 20 r
    · rw [goF_row h1] at h
      simp only [Prod.mk.injEq] at h
      obtain ⟨⟨_, rfl⟩, _⟩ := h
      exact ⟨Nat.zero_le _, fun x h => absurd h (by simp)⟩
    · cases h2 : versB (now + 1) (doS (now + 1) l r)
      · rw [goF_bad h1 h2] at h
        simp only [Prod.mk.injEq] at h
        obtain ⟨⟨_, rfl⟩, _⟩ := h
        exact ⟨Nat.zero_le _, fun x h => absurd h (by simp)⟩
      · rw [goF_on h1 h2] at h
        have h20 := (wrsB_iff.1 h1).1
        exact ih _ _ _ _ _ h (fits_do (now := now + 1) (by omega) (by omega) hf (hr r (by simp))).1 (versB_out h2).1.2.2 (fun s hs => hr s (by simp [hs]))
theorem RS.fitsC {W : World} {A : Option Addr} {qs : List Wrow} {c : Nat} (h : RS W A qs c) : ∀ r ∈ cont qs, FitsW r := fun r hr => by
  obtain ⟨s, hs, rfl⟩ := List.mem_map.1 hr
  exact (h.2.1 s hs).1
theorem RS.fits {W : World} {A : Option Addr} {qs : List Wrow} {c : Nat} (h : RS W A qs c) : FitsR qs := ⟨Nat.le_trans h.2.2.1 h.2.2.2, fun r hr => (h.2.1 r hr).1⟩
theorem RS.below {W W' : World} {A : Option Addr} {qs : List Wrow} {c : Nat} (h : RS W A qs c) (hb : Below W.heap.size W W') : RS W' A qs c := ⟨h.1.below hb, h.2⟩
theorem RS.take {W : World} {A : Option Addr} {qs : List Wrow} {c : Nat} (h : RS W A qs c) (k : Nat) : RS W A (qs.take k) c := ⟨⟨h.1.1.take k, fun r hr => h.1.2 r (List.mem_of_mem_take hr)⟩, fun r hr => h.2.1 r (List.mem_of_mem_take hr), by rw [List.length_take]; have := h.2.2.1; omega, h.2.2.2⟩
/-- a store in a box of the law's own -/
def BC (w : World) (g : Nat) (now : Int) (A : Option Addr) (l : List Ver) (c : Nat) (W : World) : Prop := Blk W g 25 #[.int .i64 now, .slice A l.length c] ∧ OwnV W w.heap.size (.slice A l.length c) l
theorem BC.below {w : World} {g : Nat} {now : Int} {A : Option Addr} {l : List Ver} {c : Nat} {W W' : World} (h : BC w g now A l c W) (hb : Below W.heap.size W W') : BC w g now A l c W' := ⟨h.1.kept hb, own_kept h.2 hb⟩
set_option maxRecDepth 100000 in
set_option maxHeartbeats 6000000 in
theorem lawPastCut (A : Option Addr) (bs : List UInt8) (c : Nat) (A' : Option Addr) (bs' : List UInt8) (c' : Nat) (w : World) (hc : bs.length ≤ c) (hm : c ≤ maxLen) (hS : Sl encU 1 w A bs) (_hc' : bs'.length ≤ c') (_hm' : c' ≤ maxLen) (_hS' : Sl encU 1 w A' bs') :
    Calls Try.prog 5 #[.slice A bs.length c, .slice A' bs'.length c'] w fun e w' => e = .returned (.bool true) ∧ Below w.heap.size w w' := by
  clear _hc' _hm' _hS'
  go_enter Try.func5, Try.ntmps5
  by_cases hbig : 1048576 < bs.length
  · have d0 : decide ((1048576 : Int) < (bs.length : Int)) = true := decide_eq_true (by omega)
    go_wp2
    go_ret
    exact ⟨rfl, Below.refl _ _⟩
  have d0 : decide ((1048576 : Int) < (bs.length : Int)) = false := decide_eq_false (by omega)
  by_cases hbig2 : 1048576 < bs'.length
  · have d1 : decide ((1048576 : Int) < (bs'.length : Int)) = true := decide_eq_true (by omega)
    go_wp2
    go_ret
    exact ⟨rfl, Below.refl _ _⟩
  have d1 : decide ((1048576 : Int) < (bs'.length : Int)) = false := decide_eq_false (by omega)
  have HD := Lib.hid (drawFold_any A bs c w (by omega) hc hm hS)
  have hl1 : bs'.length ≤ 1048576 := by omega
  clear hS hbig hbig2
  go_wp2_with fail
  refine HD.out.mono ?_
  rintro e w1 ⟨qs, A5, c5, rfl, hRS, hql, hb1⟩
  have HRS := Lib.hid hRS
  have hqc := hRS.2.2.1
  have hcm := hRS.2.2.2
  have HQ1 := Lib.hid (show ∀ r ∈ qs, r.2.2.length ≤ 1048576 from fun r hr => by have := (hRS.2.1 r hr).2.1; omega)
  have HQ2 := Lib.hid (show ∀ r ∈ qs, r.2.2.length ≤ r.2.1 ∧ r.2.1 ≤ maxLen from fun r hr => (hRS.2.1 r hr).2.2)
  clear HD hRS d0 d1
  have HFL := Lib.hid (goF_short (cont qs) 0 [] (by simp))
  generalize hgo : goF 0 [] (cont qs) = R at *
  have HR := Lib.hid hgo
  obtain ⟨⟨n, L⟩, ok⟩ := R
  have hL60 : L.length ≤ 60 := HFL.out
  clear hgo HFL
  have HC := Lib.hid (implPastFold_any A5 qs c5 w1 HRS.out.fits (by omega) HQ1.out HRS.out.1)
  rw [HR.out] at HC
  go_wp2_with fail
  refine HC.out.mono ?_
  rintro e w3 ⟨v3, rfl, ho3, hb3⟩
  simp only at ho3 ⊢
  obtain ⟨A6, c6, rfl, _, _, hS6⟩ := ho3.sl
  have hbn := (Below.refl w3.heap.size w3).alloc (Nat.le_refl _) (.cells #[.int .i64 n, .slice A6 L.length c6] 25)
  have hb34 := bthen hb3 hbn
  have HB6 := Lib.hid (show BC w w3.heap.size n A6 L c6 (w3.alloc (.cells #[.int .i64 n, .slice A6 L.length c6] 25)) from ⟨Blk.new w3 25 _, OwnV.le (own_kept ho3 hbn : OwnV _ w1.heap.size _ _) hb1.size⟩)
  have HRS := Lib.hid (HRS.out.below hb34)
  have hbw4 := bthen hb1 hb34
  clear HC hbn hb3 hb34 ho3 hS6
  have HC := Lib.hid (specPastFold_any A5 qs c5 (w3.alloc (.cells #[.int .i64 n, .slice A6 L.length c6] 25)) HRS.out.fits (by omega) HQ1.out HQ2.out HRS.out.1)
  rw [HR.out] at HC
  go_wp2_with fail
  generalize w3.alloc (.cells #[.int .i64 n, .slice A6 L.length c6] 25) = w4 at *
  have hg6 := HB6.out.1.lt
  generalize w3.heap.size = g6 at *
  refine HC.out.mono ?_
  rintro e w5 ⟨v5, rfl, ho5, hb5⟩
  simp only at ho5 ⊢
  obtain ⟨A8, c8, rfl, _, _, hS8⟩ := ho5.sl
  have hbn := (Below.refl w5.heap.size w5).alloc (Nat.le_refl _) (.cells #[.int .i64 n, .slice A8 L.length c8] 25)
  have hb56 := bthen hb5 hbn
  have HB6 := Lib.hid (HB6.out.below hb56)
  have HRS := Lib.hid (HRS.out.below hb56)
  have hbw6 := bthen hbw4 hb56
  clear HC hbn hb5 hb56 ho5 hS8 hbw4
  cases ok
  case false =>
    go_wp2
    go_ret
    exact ⟨rfl, hbw6⟩
  obtain ⟨K, hK⟩ : ∃ K, K = bs'.length % (qs.length + 1) := ⟨_, rfl⟩
  have hKl : K ≤ qs.length := by have := Nat.mod_lt bs'.length (show 0 < qs.length + 1 by omega); omega
  obtain ⟨M, hM1, hM2, hM3⟩ := goF_take _ K 0 n [] L HR.out vers_start (by rw [cont_len]; exact hKl)
  obtain ⟨hN1, hN2, _⟩ := goF_ok _ 0 n [] L HR.out vers_start
  rw [cont_len] at hN1
  rw [Int.zero_add] at hM1 hM2 hM3 hN1
  rw [← cont_take] at hM1
  have hM60 := (versB_out hM2).1.2.2
  have HRK := Lib.hid (HRS.out.take K)
  have HTL := Lib.hid (show (qs.take K).length = K by rw [List.length_take]; omega)
  have HC := Lib.hid (implPastFold_any A5 (qs.take K) c5 (w5.alloc (.cells #[.int .i64 n, .slice A8 L.length c8] 25)) HRK.out.fits (by rw [HTL.out]; omega) (fun r hr => HQ1.out r (List.mem_of_mem_take hr)) HRK.out.1)
  rw [HTL.out, hM1] at HC
  have HRX := Lib.hid (show rowsA (K : Int) M (K : Int) = atL M (K : Int) from rowsA_yes hM2 (by omega) (Int.le_refl _))
  have HRY := Lib.hid (show rowsA n L (K : Int) = atL M (K : Int) from (rowsA_yes hN2 (by omega) (by omega)).trans hM3)
  have hal := atL_le M (K : Int)
  have HFL := Lib.hid (goF_fits _ _ _ _ _ _ HR.out ⟨Nat.zero_le _, fun x h => absurd h (by simp)⟩ (by simp) HRS.out.fitsC)
  have HFM := Lib.hid (goF_fits _ _ _ _ _ _ hM1 ⟨Nat.zero_le _, fun x h => absurd h (by simp)⟩ (by simp) HRK.out.fitsC)
  generalize atL M (K : Int) = R at *
  have k1 : IntKind.i64.wrap ((qs.length : Int) + 1) = (qs.length : Int) + 1 := IntWalk.i64_in _ (by omega)
  have k2 : (bs'.length : Int).tmod ((qs.length : Int) + 1) = (K : Int) := by
    rw [IntWalk.rem_in _ _ (by omega), hK]
    push_cast
    rfl
  have k3 : ((qs.length : Int) + 1 == 0) = false := beq_eq_false_iff_ne.2 (by omega)
  have k4 : ¬ ((qs.length : Int) + 1 = 0) := by omega
  have k5 : (K : Int) ≤ (c5 : Int) := by omega
  have k6 : (0 : Int) ≤ (K : Int) := by omega
  have k7 : K ≤ c5 := by omega
  clear hK hM1 hM2 hM3 hN1 hN2 HR
  go_wp2_with fail
  generalize w5.alloc (.cells #[.int .i64 n, .slice A8 L.length c8] 25) = w6 at *
  refine HC.out.mono ?_
  rintro e w7 ⟨v7, rfl, ho7, hb7⟩
  simp only at ho7 ⊢
  obtain ⟨A11, c11, rfl, _, _, hS11⟩ := ho7.sl
  have hbn := (Below.refl w7.heap.size w7).alloc (Nat.le_refl _) (.cells #[.int .i64 (K : Int), .slice A11 M.length c11] 25)
  have hb78 := bthen hb7 hbn
  have HB11 := Lib.hid (show BC w w7.heap.size (K : Int) A11 M c11 (w7.alloc (.cells #[.int .i64 (K : Int), .slice A11 M.length c11] 25)) from ⟨Blk.new w7 25 _, OwnV.le (own_kept ho7 hbn : OwnV _ w6.heap.size _ _) hbw6.size⟩)
  have HB6 := Lib.hid (HB6.out.below hb78)
  have hbw8 := bthen hbw6 hb78
  clear HC hbn hb7 hb78 ho7 hS11 hbw6 HRS HRK k1 k2 k3 k4
  have hbd := (Below.refl (w7.alloc (.cells #[.int .i64 (K : Int), .slice A11 M.length c11] 25)).heap.size (w7.alloc (.cells #[.int .i64 (K : Int), .slice A11 M.length c11] 25))).drew
  have s0 : (w7.alloc (.cells #[.int .i64 (K : Int), .slice A11 M.length c11] 25)).cell? ⟨g6, 0, none⟩ = some (.int .i64 n) := HB6.out.1.cell 0
  have s1 : (w7.alloc (.cells #[.int .i64 (K : Int), .slice A11 M.length c11] 25)).cell? ⟨g6, 1, none⟩ = some (.slice A6 L.length c6) := HB6.out.1.cell 1
  have s2 : (w7.alloc (.cells #[.int .i64 (K : Int), .slice A11 M.length c11] 25)).cell? ⟨w7.heap.size, 0, none⟩ = some (.int .i64 (K : Int)) := HB11.out.1.cell 0
  have s3 : (w7.alloc (.cells #[.int .i64 (K : Int), .slice A11 M.length c11] 25)).cell? ⟨w7.heap.size, 1, none⟩ = some (.slice A11 M.length c11) := HB11.out.1.cell 1
  have HB6 := Lib.hid (HB6.out.below hbd)
  have HB11 := Lib.hid (HB11.out.below hbd)
  have HBW := Lib.hid (bthen hbw8 hbd)
  clear hbd hbw8
  go_wp2_with fail
  generalize w7.alloc (.cells #[.int .i64 (K : Int), .slice A11 M.length c11] 25) = w8 at *
  generalize w7.heap.size = g11 at *
  go_region_held3 (fun W => W.cell? ⟨g6, 0, none⟩ = some (.int .i64 n) ∧ W.cell? ⟨g6, 1, none⟩ = some (.slice A6 L.length c6) ∧ W.cell? ⟨g11, 0, none⟩ = some (.int .i64 (K : Int)) ∧ W.cell? ⟨g11, 1, none⟩ = some (.slice A11 M.length c11))
    (first | assumption | go_keep)
    (first
      | (go_at_call 18
         refine (wpRows_same AX AY R cX cY _ (by omega) HX.out.reads HY.out.reads).mono ?_
         rintro e wk ⟨rfl, hbk⟩
         have HB6 := Lib.hid (HB6.out.below hbk)
         have HB11 := Lib.hid (HB11.out.below hbk)
         have HBW := Lib.hid (bthen HBW.out hbk)
         have hkk : wk.cell? ⟨g6, 0, none⟩ = some (.int .i64 n) ∧ wk.cell? ⟨g6, 1, none⟩ = some (.slice A6 L.length c6) ∧ wk.cell? ⟨g11, 0, none⟩ = some (.int .i64 (K : Int)) ∧ wk.cell? ⟨g11, 1, none⟩ = some (.slice A11 M.length c11) := ⟨HB6.out.1.cell 0, HB6.out.1.cell 1, HB11.out.1.cell 0, HB11.out.1.cell 1⟩
         clear hbk)
      | (go_at_call 19
         refine (implAt_any _ _ _ _ _ _ ?_ ?_ ?_).mono ?_
         (first | exact HFM.out | exact HFL.out)
         omega
         (first | exact HB11.out.2.reads2 | exact HB6.out.2.reads2)
         rintro e wk ⟨vk, rfl, hok, hbk⟩
         first
           | (rw [HRX.out] at hok
              obtain ⟨AX, cX, rfl, _, _, hSX⟩ := hok.sl
              have HX := Lib.hid hok
              try have HY := Lib.hid (HY.out.below hbk)
              clear hSX)
           | (rw [HRY.out] at hok
              obtain ⟨AY, cY, rfl, _, _, hSY⟩ := hok.sl
              have HY := Lib.hid hok
              try have HX := Lib.hid (HX.out.below hbk)
              clear hSY)
         have HB6 := Lib.hid (HB6.out.below hbk)
         have HB11 := Lib.hid (HB11.out.below hbk)
         have HBW := Lib.hid (bthen HBW.out hbk)
         have hkk : wk.cell? ⟨g6, 0, none⟩ = some (.int .i64 n) ∧ wk.cell? ⟨g6, 1, none⟩ = some (.slice A6 L.length c6) ∧ wk.cell? ⟨g11, 0, none⟩ = some (.int .i64 (K : Int)) ∧ wk.cell? ⟨g11, 1, none⟩ = some (.slice A11 M.length c11) := ⟨HB6.out.1.cell 0, HB6.out.1.cell 1, HB11.out.1.cell 0, HB11.out.1.cell 1⟩
         clear hok hbk))
  all_goals
    go_wp2
    go_ret
    exact ⟨rfl, HBW.out⟩
theorem own0 : ownKnob Try.prog.godebug = none := by kernel_rfl
theorem laidOut0 : laidOutB Try.prog = true := by kernel_rfl
set_option maxRecDepth 100000 in
theorem pastCut_lifted (os : Os) (started : os.Started) (H : Type) (enc : TypeId × Value → H) :
    ReturnsInHanded {} Try.checked os 5 .any (Rows.fnPastCutSpec.pre6 enc Try.prog Try.f5 Rows.fnPastCutRow.domain false) (Rows.fnPastCutSpec.post enc Try.prog Try.f5 false true false false) := by
  refine returnsInHanded_of_change (C := Try.checked) own0 started (by kernel_rfl) Try.func5
    (ChangeSpec.witness6 (enc := enc) (C := Try.checked) false ⟨#[], #[.slice none 0 0, .slice none 0 0], []⟩ 8 (by kernel_rfl) (by kernel_rfl) (by kernel_rfl) (by kernel_rfl)) ?_
  intro W base args ds gs before hval0 hW hcnd _
  have hval : ∀ (j : Nat) t v, Try.f5.params[j]? = some t → args[j]? = some v → Value.okWide Try.prog W .any base t v := hval0
  have hW' := hW
  obtain ⟨p, q, hA0, hV, rfl, hfz, hnd⟩ := hW
  have hA : DataW.TrodAll enc Try.prog W 0 (fun _ => true) true Try.f5.params.toList args.toList ds p := hA0
  rw [Try.params5] at hA hval
  obtain ⟨v0, vs0, d0, ds0, p0, q0, hargs, rfl, rfl, h0, r0⟩ := trodAll_cons hA
  obtain ⟨v1, vs1, d1, ds1, p1, q1, rfl, rfl, rfl, h1, r1⟩ := trodAll_cons r0
  obtain ⟨rfl, rfl, rfl⟩ := trodAll_nil r1
  obtain rfl : args = #[v0, v1] := by cases args; simp_all
  obtain ⟨rfl, rfl⟩ := trodVars_none hV
  have k0 := h0
  have lt0 : ∀ x ∈ p0, x.block < W.heap.size := by obtain ⟨m, hm⟩ := k0; exact DataW.trod_lt m _ _ _ hm
  have k1 := h1
  have lt1 : ∀ x ∈ p1, x.block < W.heap.size := by obtain ⟨m, hm⟩ := k1; exact DataW.trod_lt m _ _ _ hm
  obtain ⟨A0, bs0, c0, rfl, hb0, hR0⟩ := open_bytes (hval 0 22 v0 rfl rfl) h0
  obtain ⟨A1, bs1, c1, rfl, hb1, hR1⟩ := open_bytes (hval 1 22 v1 rfl rfl) h1
  clear hA0 hval0
  refine (lawPastCut A0 bs0 c0 A1 bs1 c1 W hb0.1 hb0.2 hR0 hb1.1 hb1.2 hR1).mono fun e W' ⟨he, bel⟩ => ?_
  subst he
  exact ⟨_, rfl, _, _, _, [], _, [], hW', trodAll_mk1 (shut_bool Try.underlying4 _), (trodAll_cons_mk (Below.trod laidOut0 (by kernel_rfl) (of_decide_eq_true (by kernel_rfl)) k0 bel lt0) (trodAll_cons_mk (Below.trod laidOut0 (by kernel_rfl) (of_decide_eq_true (by kernel_rfl)) k1 bel lt1) trodAll_mk0)), rfl, bel.frame _, fun h => by cases h⟩
theorem pastCut_holds : Rows.FnPastCutSaid :=
  OpenClaim.holds_of_wide 5 Try.f5 rfl rfl rfl rfl rfl rfl rfl ⟨rfl, rfl, rfl, rfl, rfl⟩ rfl rfl rfl rfl rfl (by kernel_rfl) Try.func5 (by kernel_rfl)
    (of_decide_eq_true (by kernel_rfl)) (by unfold Func.isWrapper; first | (rw [if_pos (by decide +kernel)]; kernel_rfl) | (rw [if_neg (by decide +kernel)]; exact ⟨rfl, rfl⟩))
    (fun os started H enc _ => pastCut_lifted os started H enc)
#print axioms pastCut_holds
end Go.Proofs.Ytfmpohhaimgnfaa
