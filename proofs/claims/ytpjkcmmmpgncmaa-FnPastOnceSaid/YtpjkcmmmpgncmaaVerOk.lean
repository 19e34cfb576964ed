/- The program's VersOk. -/
import Derived.Test.YtpjkcmmmpgncmaaSnap
namespace Go.Proofs.Ytpjkcmmmpgncmaa
open Go.RowKit Go.Shelf
attribute [local go_sem] Oper.semAt_some
def pairB (x y : Ver) : Bool := if x.1.toList = y.1.toList then !decide (x.2.2.2 = 0) && decide (x.2.2.2 ≤ y.2.2.1) else ltB x.1 y.1
theorem pair_1 {x y : Ver} (h : (!Op.bytesLess y.1.toList x.1.toList) = true ∧ (!y.1.toList == x.1.toList) = true) : pairB y x = false := by
  unfold pairB ltB
  have h2 : ¬ y.1.toList = x.1.toList := by simpa using h.2
  rw [if_neg h2]; simpa using h.1
theorem pair_2 {x y : Ver} (h : y.1.toList = x.1.toList) (h2 : y.2.2.2 = 0) : pairB y x = false := by unfold pairB; rw [if_pos h]; simp [h2]
theorem pair_3 {x y : Ver} (h : y.1.toList = x.1.toList) (h3 : (y.2.2.2 == 0) = true ∨ x.2.2.1 < y.2.2.2) : pairB y x = false := by
  unfold pairB; rw [if_pos h]
  rcases h3 with h3 | h3
  · simp at h3; simp [h3]
  · have : ¬ y.2.2.2 ≤ x.2.2.1 := by omega
    simp [this]
theorem pair_4 {x y : Ver} (h : y.1.toList = x.1.toList) (h3 : (y.2.2.2 == 0) = false ∧ y.2.2.2 ≤ x.2.2.1) : pairB y x = true := by
  unfold pairB; rw [if_pos h]
  have := h3.1
  simp at this
  simp [this, h3.2]
theorem pair_5 {x y : Ver} (h : (!Op.bytesLess y.1.toList x.1.toList) = false ∨ (!y.1.toList == x.1.toList) = false) (h1 : ¬ y.1.toList = x.1.toList) : pairB y x = true := by
  unfold pairB ltB; rw [if_neg h1]
  rcases h with h | h
  · simpa using h
  · exact absurd (by simpa using h) h1
theorem pair_ahead {x y : Ver} {now : Int} (h : verB x now = true) : aheadB x y = pairB x y := by
  unfold verB at h
  simp only [Bool.and_eq_true, Bool.or_eq_true, decide_eq_true_eq] at h
  unfold aheadB pairB
  by_cases e : x.1 = y.1
  · rw [if_neg (by simpa using e), if_pos (by rw [e])]
    rw [Bool.eq_iff_iff]; simp; omega
  · rw [if_pos e, if_neg (fun h => e ((bytes_eq_iff _ _).1 h))]
def OkTo (now : Int) (l : List Ver) (k : Nat) : Prop := ∀ j, j < k → ∀ x, l[j]? = some x → verB x now = true ∧ ∀ y, 0 < j → l[j - 1]? = some y → pairB y x = true
theorem atL_vis (l : List Ver) (t : Int) : (atL l t).length = (visL l t).length := by unfold atL visL; rw [List.length_map]
set_option maxRecDepth 100000 in
set_option maxHeartbeats 4000000 in
theorem implVersOk_in (A : Option Addr) (vs : List Ver) (c : Nat) (now : Int) (w : World) (hn : FitsV vs) (hlen : vs.length ≤ 1048576) (hS : Sl encVer 4 w A vs) :
    CallsIn Fence.wide 5 Try.prog 49 #[.agg #[.int .i64 now, .slice A vs.length c]] w fun e w' => e = .returned (.bool (versB now vs)) ∧ Below w.heap.size w w' := by
  have hbw : Below w.heap.size w (w.alloc (.cells #[.int .i64 now, .slice A vs.length c] 32)) := (Below.refl _ _).alloc (Nat.le_refl _) _
  have hB0 := Blk.new w 32 #[.int .i64 now, .slice A vs.length c]
  by_cases hh : 0 ≤ now ∧ now ≤ 40 ∧ vs.length ≤ 60
  · obtain ⟨h1, h2, h3⟩ := hh
    have d1 : decide (now < 0) = false := by simp; omega
    have d2 : decide (40 < now) = false := by simp; omega
    have d3 : decide (60 < (vs.length : Int)) = false := by simp; omega
    have hl2 : vs.length ≤ 9223372036854775807 := by omega
    refine callsIn_of_wp_marks Try.func49 rfl trivial ?_ rfl
    simp only [Try.ntmps49, List.size_toArray, List.length_cons, List.length_nil, Nat.reduceAdd, Nat.reduceSub, Array.replicate_succ, Array.replicate_zero, List.push_toArray, List.append_toArray, List.nil_append, List.cons_append]
    gi_wp2
    gi_loopw [25] (fun i wr => ∃ k : Nat, k ≤ vs.length ∧ i = .int .i64 k ∧ OkTo now vs k ∧ Blk wr w.heap.size 32 #[.int .i64 now, .slice A vs.length c] ∧ Below w.heap.size w wr) (fun i _ => vs.length - (intOf i).toNat)
    case atStart => exact ⟨0, by omega, rfl, fun j h => absurd h (by omega), hB0, hbw⟩
    case round =>
      obtain ⟨k, hk, rfl, hok, hB, hb⟩ := hrel
      have HOK := Lib.hid hok
      clear hok
      have x0 : wr.cell? ⟨w.heap.size, 0, none⟩ = some (.int .i64 now) := hB.cell 0
      have x1 : wr.cell? ⟨w.heap.size, 1, none⟩ = some (.slice A vs.length c) := hB.cell 1
      have hBl := hB.lt
      have hbs := hb.size
      by_cases hlt : k < vs.length
      · obtain ⟨b, o, rfl, hbl, c0, c1, c2, c3⟩ := Sl.at4 (hS.below hb) hlt
        have hx := hn.2 _ (List.getElem_mem hlt)
        have HX := Lib.hid (List.getElem?_eq_getElem hlt)
        generalize vs[k] = x at *
        have hba := (Below.refl wr.heap.size wr).alloc (Nat.le_refl _) (.cells #[.string x.1, .int .i64 x.2.1, .int .i64 x.2.2.1, .int .i64 x.2.2.2] 88)
        have y0 := (hba.cell (p := ⟨w.heap.size, 0, none⟩) hBl).trans x0
        have hX := Blk.new wr 88 #[.string x.1, .int .i64 x.2.1, .int .i64 x.2.2.1, .int .i64 x.2.2.2]
        gi_wp2_with fail
        refine ⟨trivial, callsIn_wide.2 ((implVerOk_any x now _ hx).mono ?_)⟩
        rintro e w1 ⟨rfl, hb1⟩
        have hba1 := hba.trans (hb1.mono (by simp))
        have hb01 := hb.trans (hba1.mono hbs)
        have hX1 := hX.kept hb1
        have hB1 := hB.kept hba1
        clear y0 c0 c1 c2 c3 x0 x1
        generalize hvb : verB x now = vb at *
        have HVB := Lib.hid hvb
        clear hvb
        cases vb
        · have HNO := Lib.hid (versB_no (fun h : VersP now vs => by have := h.2.1 k hlt x HX.out; rw [HVB.out] at this; cases this))
          gi_wp2
          refine rI (results_tmp rfl _ _ _) ?_
          exact ⟨ret_bool HNO.out.symm, hb01⟩
        · have e0 : w1.cell? ⟨wr.heap.size, 0, none⟩ = some (.string x.1) := hX1.cell 0
          have e2 : w1.cell? ⟨wr.heap.size, 2, none⟩ = some (.int .i64 x.2.2.1) := hX1.cell 2
          have b1 : w1.cell? ⟨w.heap.size, 1, none⟩ = some (.slice (some ⟨b, o, none⟩) vs.length c) := hB1.cell 1
          by_cases hk0 : k = 0
          · subst hk0
            gi_wp2
            go_roundw
            case rel => exact ⟨1, by omega, by go_num, fun j hj z hz => by
              obtain rfl : j = 0 := by omega
              rw [HX.out] at hz; injection hz with hz; subst hz
              exact ⟨HVB.out, fun y h0 => absurd h0 (by omega)⟩, hB1, hb01⟩
            case measure => simp [intOf]; omega
          · obtain ⟨m, rfl⟩ : ∃ m, k = m + 1 := ⟨k - 1, by omega⟩
            have hk0' : (((m + 1 : Nat) : Int) == 0) = false := by simp; omega
            have hk1 : ((m : Int) + 1 == 0) = false := by simp; omega
            obtain ⟨b', o', he, hbl', f0, f1, f2, f3⟩ := Sl.at4 (hS.below hb01) (show m < vs.length by omega)
            simp at he
            obtain ⟨rfl, rfl⟩ := he
            have HY := Lib.hid (List.getElem?_eq_getElem (show m < vs.length by omega))
            generalize vs[m] = y at *
            clear hk0
            have hb2 := (Below.refl w1.heap.size w1).alloc (Nat.le_refl _) (.cells #[.string y.1, .int .i64 y.2.1, .int .i64 y.2.2.1, .int .i64 y.2.2.2] 88)
            have hX2 := hX1.kept hb2
            have hB2 := hB1.kept hb2
            have hb02 := bthen hb01 hb2
            have g0 : (w1.alloc (.cells #[.string y.1, .int .i64 y.2.1, .int .i64 y.2.2.1, .int .i64 y.2.2.2] 88)).cell? ⟨wr.heap.size, 0, none⟩ = some (.string x.1) := hX2.cell 0
            have g2 : (w1.alloc (.cells #[.string y.1, .int .i64 y.2.1, .int .i64 y.2.2.1, .int .i64 y.2.2.2] 88)).cell? ⟨wr.heap.size, 2, none⟩ = some (.int .i64 x.2.2.1) := hX2.cell 2
            clear e0 e2 hX1 hX hba hb1 hb2 hba1
            have HP := Lib.hid (show pairB y x = true → ∀ j, j < m + 1 + 1 → ∀ z, vs[j]? = some z → verB z now = true ∧ ∀ y, 0 < j → vs[j - 1]? = some y → pairB y z = true from fun hp j hj z hz => by
              by_cases hjm : j < m + 1
              · exact HOK.out j hjm z hz
              · obtain rfl : j = m + 1 := by omega
                rw [HX.out] at hz; injection hz with hz; subst hz
                refine ⟨HVB.out, fun y' _ hy' => ?_⟩
                simp only [Nat.add_sub_cancel] at hy'
                rw [HY.out] at hy'; injection hy' with hy'; subst hy'
                exact hp)
            have HN := Lib.hid (show pairB y x = false → versB now vs = false from fun hp => versB_no (fun h : VersP now vs => by
              have := h.2.2.1 m (by omega) y x HY.out HX.out
              rw [pair_ahead (h.2.1 m (by omega) y HY.out), hp] at this; cases this))
            gi_wp2
            · have h := pair_1 (by assumption)
              refine rI (results_tmp rfl _ _ _) ?_
              exact ⟨ret_bool (HN.out h).symm, hb02⟩
            · have h := pair_2 (by assumption) (by assumption)
              have hq : y.2.2.2 = 0 := by assumption
              rw [hq] at hb02
              refine rI (results_tmp rfl _ _ _) ?_
              exact ⟨ret_bool (HN.out h).symm, hb02⟩
            · have h := pair_3 (by assumption) (by assumption)
              refine rI (results_tmp rfl _ _ _) ?_
              exact ⟨ret_bool (HN.out h).symm, hb02⟩
            · have h := pair_4 (by assumption) (by assumption)
              go_roundw
              case rel => exact ⟨m + 1 + 1, by omega, by go_num, HP.out h, hB2, hb02⟩
              case measure => simp [intOf]; omega
            · have h := pair_5 (by assumption) (by assumption)
              go_roundw
              case rel => exact ⟨m + 1 + 1, by omega, by go_num, HP.out h, hB2, hb02⟩
              case measure => simp [intOf]; omega
      · obtain rfl : k = vs.length := by omega
        have HOK' := HOK
        have hn60 := h3
        gi_wp2
        refine wpIn_loop (fun a' W => ∃ (u0 u2 u3 u4 u5 u6 u7 u8 u9 u10 u11 u12 u13 u14 u15 u16 u17 u18 u19 u20 u21 u22 u23 u24 u25 u26 u27 u28 u29 u30 u31 u32 u33 u34 u35 u36 u37 u38 u39 u40 u41 u42 u43 u44 u45 u46 u47 u48 u49 u50 u51 u52 u53 u54 u55 u56 u57 u58 u59 u60 u61 u62 u63 u64 u65 u66 u67 u68 u69 u70 u71 u72 u73 u74 u75 u76 u77 u78 u79 : Value) (ds : List Deferred), (∃ (k : Nat) (Ds : List Nat), u6 = .int .i64 k ∧ ds = Ds.map mkD ∧ (k : Int) ≤ now + 1 ∧ (∀ t : Nat, t < k → (visL vs t).length ≤ 10) ∧ Blk W w.heap.size 32 #[.int .i64 now, .slice A vs.length c] ∧ Below w.heap.size w W ∧ MarksAt w.heap.size Ds W) ∧
          a' = { tmps := #[u0, .pointer (some ⟨w.heap.size, 0, none⟩), u2, u3, u4, u5, u6, u7, u8, u9, u10, u11, u12, u13, u14, u15, u16, u17, u18, u19, u20, u21, u22, u23, u24, u25, u26, u27, u28, u29, u30, u31, u32, u33, u34, u35, u36, u37, u38, u39, u40, u41, u42, u43, u44, u45, u46, u47, u48, u49, u50, u51, u52, u53, u54, u55, u56, u57, u58, u59, u60, u61, u62, u63, u64, u65, u66, u67, u68, u69, u70, u71, u72, u73, u74, u75, u76, u77, u78, u79], defers := ds }) (fun a' _ => (now + 1 - intOf (a'.tmps.getD 6 undef)).toNat) ?_ ?_
        · (repeat apply Exists.intro)
          refine ⟨?_, rfl⟩
          exact ⟨0, [], rfl, rfl, by omega, fun t h => absurd h (by omega), hB, hb, MarksAt.nil _ _⟩
        · clear hB hb HOK' x0 x1 hBl hbs
          intro _ W hinv
          (obtain ⟨u0, hinv⟩ := hinv; obtain ⟨u2, hinv⟩ := hinv; obtain ⟨u3, hinv⟩ := hinv; obtain ⟨u4, hinv⟩ := hinv; obtain ⟨u5, hinv⟩ := hinv; obtain ⟨u6, hinv⟩ := hinv; obtain ⟨u7, hinv⟩ := hinv; obtain ⟨u8, hinv⟩ := hinv; obtain ⟨u9, hinv⟩ := hinv; obtain ⟨u10, hinv⟩ := hinv; obtain ⟨u11, hinv⟩ := hinv; obtain ⟨u12, hinv⟩ := hinv; obtain ⟨u13, hinv⟩ := hinv; obtain ⟨u14, hinv⟩ := hinv; obtain ⟨u15, hinv⟩ := hinv; obtain ⟨u16, hinv⟩ := hinv; obtain ⟨u17, hinv⟩ := hinv; obtain ⟨u18, hinv⟩ := hinv; obtain ⟨u19, hinv⟩ := hinv; obtain ⟨u20, hinv⟩ := hinv; obtain ⟨u21, hinv⟩ := hinv; obtain ⟨u22, hinv⟩ := hinv; obtain ⟨u23, hinv⟩ := hinv; obtain ⟨u24, hinv⟩ := hinv; obtain ⟨u25, hinv⟩ := hinv; obtain ⟨u26, hinv⟩ := hinv; obtain ⟨u27, hinv⟩ := hinv; obtain ⟨u28, hinv⟩ := hinv; obtain ⟨u29, hinv⟩ := hinv; obtain ⟨u30, hinv⟩ := hinv; obtain ⟨u31, hinv⟩ := hinv; obtain ⟨u32, hinv⟩ := hinv; obtain ⟨u33, hinv⟩ := hinv; obtain ⟨u34, hinv⟩ := hinv; obtain ⟨u35, hinv⟩ := hinv; obtain ⟨u36, hinv⟩ := hinv; obtain ⟨u37, hinv⟩ := hinv; obtain ⟨u38, hinv⟩ := hinv; obtain ⟨u39, hinv⟩ := hinv; obtain ⟨u40, hinv⟩ := hinv; obtain ⟨u41, hinv⟩ := hinv; obtain ⟨u42, hinv⟩ := hinv; obtain ⟨u43, hinv⟩ := hinv; obtain ⟨u44, hinv⟩ := hinv; obtain ⟨u45, hinv⟩ := hinv; obtain ⟨u46, hinv⟩ := hinv; obtain ⟨u47, hinv⟩ := hinv; obtain ⟨u48, hinv⟩ := hinv; obtain ⟨u49, hinv⟩ := hinv; obtain ⟨u50, hinv⟩ := hinv; obtain ⟨u51, hinv⟩ := hinv; obtain ⟨u52, hinv⟩ := hinv; obtain ⟨u53, hinv⟩ := hinv; obtain ⟨u54, hinv⟩ := hinv; obtain ⟨u55, hinv⟩ := hinv; obtain ⟨u56, hinv⟩ := hinv; obtain ⟨u57, hinv⟩ := hinv; obtain ⟨u58, hinv⟩ := hinv; obtain ⟨u59, hinv⟩ := hinv; obtain ⟨u60, hinv⟩ := hinv; obtain ⟨u61, hinv⟩ := hinv; obtain ⟨u62, hinv⟩ := hinv; obtain ⟨u63, hinv⟩ := hinv; obtain ⟨u64, hinv⟩ := hinv; obtain ⟨u65, hinv⟩ := hinv; obtain ⟨u66, hinv⟩ := hinv; obtain ⟨u67, hinv⟩ := hinv; obtain ⟨u68, hinv⟩ := hinv; obtain ⟨u69, hinv⟩ := hinv; obtain ⟨u70, hinv⟩ := hinv; obtain ⟨u71, hinv⟩ := hinv; obtain ⟨u72, hinv⟩ := hinv; obtain ⟨u73, hinv⟩ := hinv; obtain ⟨u74, hinv⟩ := hinv; obtain ⟨u75, hinv⟩ := hinv; obtain ⟨u76, hinv⟩ := hinv; obtain ⟨u77, hinv⟩ := hinv; obtain ⟨u78, hinv⟩ := hinv; obtain ⟨u79, hinv⟩ := hinv)
          obtain ⟨ds, ⟨k, Ds, rfl, rfl, hk, hto, hB, hb, hM⟩, ha⟩ := hinv
          subst ha
          have HTO := Lib.hid hto
          clear hto
          dsimp only
          have x0 : W.cell? ⟨w.heap.size, 0, none⟩ = some (.int .i64 now) := hB.cell 0
          have hBl := hB.lt
          have hbs := hb.size
          have hk41 : k ≤ 41 := by omega
          by_cases hkn : (k : Int) ≤ now
          · have hba := (Below.refl W.heap.size W).alloc (Nat.le_refl _) (.cells #[.int .i64 0] 3)
            have hB1 := hB.kept hba
            have y0 : (W.alloc (.cells #[.int .i64 0] 3)).cell? ⟨w.heap.size, 0, none⟩ = some (.int .i64 now) := hB1.cell 0
            have y1 : (W.alloc (.cells #[.int .i64 0] 3)).cell? ⟨w.heap.size, 1, none⟩ = some (.slice A vs.length c) := hB1.cell 1
            gi_wp2_with fail
            refine ⟨trivial, (snap_in _ A vs.length c now k _).mono ?_⟩
            rintro e W1 ⟨rfl, rfl⟩
            have hs0 := Blk.new W 3 #[.int .i64 0]
            have hba1 := hba.alloc (by simp) (.cells #[.int .i64 now, .slice A vs.length c] 32)
            have hv1 := Blk.new (W.alloc (.cells #[.int .i64 0] 3)) 32 #[.int .i64 now, .slice A vs.length c]
            have ht2 := Blk.new ((W.alloc (.cells #[.int .i64 0] 3)).alloc (.cells #[.int .i64 now, .slice A vs.length c] 32)) 3 #[.int .i64 k]
            have hba2 := hba1.alloc (by simp; omega) (.cells #[.int .i64 k] 3)
            have hv2 := hv1.alloc (.cells #[.int .i64 k] 3)
            have hs2 := (hs0.alloc (.cells #[.int .i64 now, .slice A vs.length c] 32)).alloc (.cells #[.int .i64 k] 3)
            gi_wp2
            have HB := Lib.hid hba2
            have HM := Lib.hid (hM.kept hba2)
            have HBv := Lib.hid (hB.kept hba2)
            have hz1 : (((W.alloc (.cells #[.int .i64 0] 3)).alloc (.cells #[.int .i64 now, .slice A vs.length c] 32)).alloc (.cells #[.int .i64 k] 3)).heap.size = W.heap.size + 3 := by simp
            have hb03 := hb.trans (hba2.mono hbs)
            have hz2 : (W.alloc (.cells #[.int .i64 0] 3)).heap.size = W.heap.size + 1 := by simp
            have hz3 : ((W.alloc (.cells #[.int .i64 0] 3)).alloc (.cells #[.int .i64 now, .slice A vs.length c] 32)).heap.size = W.heap.size + 2 := by simp
            rw [hz2] at hv2
            rw [hz3] at ht2
            have hc0 : (((W.alloc (.cells #[.int .i64 0] 3)).alloc (.cells #[.int .i64 now, .slice A vs.length c] 32)).alloc (.cells #[.int .i64 k] 3)).cell? ⟨W.heap.size, 0, none⟩ = some (.int .i64 0) := hs2.cell 0
            have hf0 := hs2.frozen 0
            clear y0 y1 hB1 hs0 hv1 hba hba1 hba2 x0 hB
            generalize ((W.alloc (.cells #[.int .i64 0] 3)).alloc (.cells #[.int .i64 now, .slice A vs.length c] 32)).alloc (.cells #[.int .i64 k] 3) = W1 at *
            refine wpIn_rangeFunc_ownG (F := Fence.wide) rfl (by decide) (gf := 116) (lb := #[.pointer (some ⟨W.heap.size + 1, 0, none⟩), .pointer (some ⟨W.heap.size + 2, 0, none⟩)]) rfl trivial (enters_of Try.func116 (by kernel_rfl) rfl)
              (snap_stops 4 (by decide) (W.heap.size + 1) (W.heap.size + 2) W.heap.size c A vs now k w W1 hlen hS hbs (by omega) hb03 hv2 ht2 (by omega)) KpB.trans (fun _ _ _ o' hl _ _ _ => KpB.put hl o') (Below.refl _ _) (fun _ => rfl)
              (fun pre W2 => W1.grownBy W2 (some W.heap.size) ∧ W2.cell? ⟨W.heap.size, 0, none⟩ = some (.int .i64 pre.length) ∧ W2.frozen? ⟨W.heap.size, 0, none⟩ = false) (fun _ _ _ => False)
              (own_box (by omega) (fun pre : List Ver => .int .i64 pre.length)) (fun _ _ _ _ _ hs _ _ => hs) ⟨World.grownBy.refl _ _, hc0, hf0⟩ (fun x => { tmps := #[u0, .pointer (some ⟨w.heap.size, 0, none⟩), u2, u3, u4, u5, .int .i64 k, .pointer (some ⟨W.heap.size, 0, none⟩), u8, u9, u10, u11, u12, u13, u14, u15, u16, u17, u18, u19, u20, u21, u22, u23, u24, u25, u26, u27, u28, u29, u30, u31, u32, u33, u34, u35, u36, u37, u38, u39, u40, u41, u42, u43, u44, u45, u46, u47, u48, u49, u50, u51, u52, u53, u54, u55, u56, u57, u58, u59, u60, u61, u62, u63, u64, u65, .int .i64 k, .pointer (some ⟨w.heap.size, 0, none⟩), .int .i64 now, .bool true, u70, u71, .agg #[.int .i64 now, .slice A vs.length c], .int .i64 k, .func (.func 116) #[] #[.pointer (some ⟨W.heap.size + 1, 0, none⟩), .pointer (some ⟨W.heap.size + 2, 0, none⟩)], .agg #[.string x.1, .int .i64 x.2.1, .int .i64 x.2.2.1, .int .i64 x.2.2.2], u76, u77, u78, u79], defers := [] }) ?assign ?body ?done ?stop
            case assign =>
              intro l x W2 K hK
              gi_wp2
              exact hK
            case body =>
              rintro l pre x W2 ⟨hg, hc, hf⟩ hlp
              have hl60 : pre.length < 60 := by omega
              have hgs := hg.size
              have HG := Lib.hid hg
              clear hg
              gi_wp2
              refine ⟨(KeepsOthers.setCell _ _ _).from _, ⟨by simp, fun j hj hne => ?_⟩, ?_, ?_, ?_⟩
              · exact Below.heap_setCell W2 ⟨W.heap.size, 0, none⟩ _ j (by simpa using hne)
              · exact (grown_setS HG.out (by simp) _)
              · rw [World.cell?_setCell_same' _ _ _ (by rw [hc]; rfl)]; simp
              · rw [World.frozen?_setCell]; exact hf
            case done =>
              rintro D ys W2 hD rfl ⟨hg, hc, hf⟩ hK
              have hl60 := visL_le vs k
              have hg2 := hg.size
              have hM2 : MarksAt w.heap.size (D :: Ds) W2 := MarksAt.cons (MarksAt.grown HM.out hg (fun D' hD' => by have := hM.lt hD'; omega)) hK (by omega) (fun D' hD' => by have := hM.lt hD'; omega)
              have hB2 : Blk W2 w.heap.size 32 #[.int .i64 now, .slice A vs.length c] := HBv.out.grown hg (by simp; omega)
              have hb2 : Below w.heap.size w W2 := hb03.grown hg (by omega) (fun j hj => by injection hj; omega)
              have HG := Lib.hid hg
              have HK := Lib.hid hK
              have HM2 := Lib.hid hM2
              clear hg hK hM2
              by_cases h10 : (visL vs k).length ≤ 10
              · have h10' : decide (10 < ((visL vs k).length : Int)) = false := by simp; omega
                gi_wp2
                refine ⟨?_, ?_⟩
                · (repeat apply Exists.intro)
                  refine ⟨?_, rfl⟩
                  exact ⟨k + 1, D :: Ds, by go_num, rfl, by omega, fun t ht => by
                    by_cases htk : t < k
                    · exact HTO.out t htk
                    · obtain rfl : t = k := by omega
                      exact h10, hB2, hb2, HM2.out⟩
                · simp [intOf]; omega
              · have h10' : decide (10 < ((visL vs k).length : Int)) = true := by simp; omega
                have HNO := Lib.hid (versB_no (fun h : VersP now vs => by have := h.2.2.2 k (by omega) hkn; rw [atL_vis] at this; exact h10 this))
                gi_wp2
                refine MarksAt.leaves (D :: Ds) _ HM2.out (fun w' hbw' => ⟨results_tmp rfl _ _ _, ?_⟩)
                exact ⟨ret_bool HNO.out.symm, hb2.trans hbw'⟩
            case stop =>
              rintro D cc pre W2 _ _ h _
              exact h.elim
          · have HYES := Lib.hid (versB_yes (now := now) (l := vs) ⟨⟨h1, h2, h3⟩, fun i hi x hx => (HOK.out i hi x hx).1, fun i hi x y hx hy => by
              have hlt : i + 1 < vs.length := (List.getElem?_eq_some_iff.1 hy).1
              rw [pair_ahead (HOK.out i hi x hx).1]
              exact (HOK.out (i + 1) hlt y hy).2 x (by omega) (by simpa using hx), fun t ht htn => by
              rw [atL_vis]; exact HTO.out t (by omega)⟩)
            gi_wp2
            refine MarksAt.leaves Ds _ hM (fun w' hbw' => ⟨results_tmp rfl _ _ _, ?_⟩)
            exact ⟨ret_bool HYES.out.symm, hb.trans hbw'⟩
  · have HNO := Lib.hid (versB_no (fun h : VersP now vs => hh h.1))
    have hl2 : vs.length ≤ 9223372036854775807 := by omega
    refine callsIn_of_wp_marks Try.func49 rfl trivial ?_ rfl
    simp only [Try.ntmps49, List.size_toArray, List.length_cons, List.length_nil, Nat.reduceAdd, Nat.reduceSub, Array.replicate_succ, Array.replicate_zero, List.push_toArray, List.append_toArray, List.nil_append, List.cons_append]
    by_cases h1 : now < 0
    · have d1 : decide (now < 0) = true := by simp; omega
      gi_wp2
      refine rI (results_tmp rfl _ _ _) ?_
      exact ⟨ret_bool HNO.out.symm, hbw⟩
    · have d1 : decide (now < 0) = false := by simp; omega
      by_cases h2 : 40 < now
      · have d2 : decide (40 < now) = true := by simp; omega
        gi_wp2
        refine rI (results_tmp rfl _ _ _) ?_
        exact ⟨ret_bool HNO.out.symm, hbw⟩
      · have d2 : decide (40 < now) = false := by simp; omega
        have d3 : decide (60 < (vs.length : Int)) = true := by simp; omega
        gi_wp2
        refine rI (results_tmp rfl _ _ _) ?_
        exact ⟨ret_bool HNO.out.symm, hbw⟩
theorem implVersOk_any (A : Option Addr) (vs : List Ver) (c : Nat) (now : Int) (w : World) (hn : FitsV vs) (hlen : vs.length ≤ 1048576) (hS : Sl encVer 4 w A vs) :
    Calls Try.prog 49 #[.agg #[.int .i64 now, .slice A vs.length c]] w fun e w' => e = .returned (.bool (versB now vs)) ∧ Below w.heap.size w w' :=
  callsIn_wide.1 (implVersOk_in A vs c now w hn hlen hS)
end Go.Proofs.Ytpjkcmmmpgncmaa
