/- The reference's l8Begins, l8At: what was done at a time. -/
import Derived.Test.YtpjkcmmmpgncmaaWrA
import Derived.Test.YtpjkcmmmpgncmaaFoldP
import Derived.Deep.Cut
namespace Go.Proofs.Ytpjkcmmmpgncmaa
open Go.RowKit
set_option maxRecDepth 100000 in
set_option maxHeartbeats 1000000 in
theorem begins_any (A : Option Addr) (l : List Ver) (c : Nat) (now : Int) (key : ByteArray) (t : Int) (w : World) (hn : l.length ≤ 1048576) (hS : Sl encVer 4 w A l) :
    Calls Try.prog 88 #[.agg #[.int .i64 now, .slice A l.length c], .string key, .int .i64 t] w fun e w' => ∃ b : Bool, e = .returned (.bool b) ∧ Below w.heap.size w w' := by
  have hb0 := (Below.refl w.heap.size w).alloc (Nat.le_refl _) (.cells #[.int .i64 now, .slice A l.length c] 32)
  have hB0 := Blk.new w 32 #[.int .i64 now, .slice A l.length c]
  go_enter Try.func88, Try.ntmps88
  go_wp2
  go_loopw [7] (fun i wr => ∃ k : Nat, k ≤ l.length ∧ i = .int .i64 k ∧ Blk wr w.heap.size 32 #[.int .i64 now, .slice A l.length c] ∧ Below w.heap.size w wr) (fun i _ => l.length - (intOf i).toNat)
  case atStart => exact ⟨0, by omega, rfl, hB0, hb0⟩
  case round =>
    obtain ⟨k, hk, rfl, hB, hb⟩ := hrel
    have r1 : wr.cell? ⟨w.heap.size, 1, none⟩ = some (.slice A l.length c) := hB.cell 1
    clear hB0 hb0
    by_cases hlt : k < l.length
    · obtain ⟨b, o, rfl, hbl, c0, _, c2', _⟩ := Sl.at4 (hS.below hb) hlt
      generalize l[k] = x at *
      obtain ⟨xk, xn, xf, xt⟩ := x
      simp only at c0 c2'
      have hki : (k : Int) < (l.length : Int) := by omega
      have HB := Lib.hid hB
      clear hS hB
      cases hke : (xk.toList == key.toList)
      · go_wp2
        go_roundw
        case rel => exact ⟨k + 1, by omega, by go_num, HB.out, hb⟩
        case measure => simp [intOf]; omega
      · by_cases hft : xf = t
        · have d0 : (xf == t) = true := beq_iff_eq.2 hft
          have d1 : decide (xf = t) = true := decide_eq_true hft
          clear hft
          go_wp2
          go_ret
          first | exact ⟨_, rfl, hb⟩ | exact ⟨.inr rfl, hb⟩ | exact ⟨.inl rfl, hb⟩
        · have d0 : (xf == t) = false := beq_eq_false_iff_ne.2 hft
          have d1 : decide (xf = t) = false := decide_eq_false hft
          clear hft
          go_wp2
          go_roundw
          case rel => exact ⟨k + 1, by omega, by go_num, HB.out, hb⟩
          case measure => simp [intOf]; omega
    · obtain rfl : k = l.length := by omega
      go_wp2
      go_ret
      first | exact ⟨_, rfl, hb⟩ | exact ⟨.inr rfl, hb⟩ | exact ⟨.inl rfl, hb⟩
/-- what stands while the writes of a time are told -/
def AS (w : World) (now : Int) (A : Option Addr) (l : List Ver) (c : Nat) (A5 : Option Addr) (m : List Wri) (c5 : Nat) (W : World) : Prop :=
  Blk W w.heap.size 32 #[.int .i64 now, .slice A l.length c] ∧ OwnW W (w.heap.size + 1) (.slice A5 m.length c5) m ∧ Below w.heap.size w W ∧ ∀ x ∈ m, x.1.size ≤ maxLen
theorem AS.below {w : World} {now : Int} {A : Option Addr} {l : List Ver} {c : Nat} {A5 : Option Addr} {m : List Wri} {c5 : Nat} {W W' : World} (h : AS w now A l c A5 m c5 W) (hb : Below W.heap.size W W') : AS w now A l c A5 m c5 W' := ⟨h.1.kept hb, h.2.1.below hb, bthen h.2.2.1 hb, h.2.2.2⟩
theorem AS.app {w : World} {now : Int} {A : Option Addr} {l : List Ver} {c : Nat} {A5 : Option Addr} {m : List Wri} {c5 : Nat} {W W' : World} {A' : Option Addr} {m2 : List Wri} {c' : Nat} {x : Wri} (h : AS w now A l c A5 m c5 W) (hg : W.grownBy W' (Value.slice A5 m.length c5).ownBlock) (ho : OwnW W' (w.heap.size + 1) (.slice A' m2.length c') m2) (hm : m2 = m ++ [x]) (hx : x.1.size ≤ maxLen) : AS w now A l c A' m2 c' W' := by
  obtain ⟨h1, h2, h3, h4⟩ := h
  refine ⟨h1.grown hg (fun e => by have := (h2.lt _ e.symm).1; omega), ho, below_own h3 hg h3.size (fun j hj => by have := (h2.lt j hj).1; omega), fun y hy => ?_⟩
  rw [hm] at hy
  rcases List.mem_append.1 hy with hy | hy
  · exact h4 y hy
  · simp at hy; subst hy; exact hx
set_option maxRecDepth 100000 in
set_option maxHeartbeats 3000000 in
theorem l8At_any (A : Option Addr) (l : List Ver) (c : Nat) (now t : Int) (w : World) (hf : FitsV l) (hn : l.length ≤ 1000) (hS : Sl encVer 4 w A l) :
    Calls Try.prog 51 #[.agg #[.int .i64 now, .slice A l.length c], .int .i64 t] w fun e w' => ∃ (ws : List Wri) (v : Value), e = .returned v ∧ OwnW w' w.heap.size v ws ∧ FitsW ws ∧ ws.length ≤ 2 * l.length ∧ Below w.heap.size w w' := by
  obtain ⟨i0, hi, hz0, hz1, hz2⟩ := info_parts infoWri
  have HI := Lib.hid (⟨hi, hz0, hz1, hz2⟩ : _ ∧ _ ∧ _ ∧ _)
  clear hi hz0 hz1 hz2
  have hb0 := ((Below.refl w.heap.size w).alloc (Nat.le_refl _) (.cells #[.int .i64 now, .slice A l.length c] 32)).alloc (by simp) (.cells #[] 46)
  have hB0 := (Blk.new w 32 #[.int .i64 now, .slice A l.length c]).alloc (.cells #[] 46)
  have ho := own_empty (w := w.alloc (.cells #[.int .i64 now, .slice A l.length c] 32))
  rw [World.size_alloc] at ho
  have HST := Lib.hid (show AS w now A l c (some ⟨w.heap.size + 1, 0, none⟩) [] 0 ((w.alloc (.cells #[.int .i64 now, .slice A l.length c] 32)).alloc (.cells #[] 46)) from ⟨hB0, ho, hb0, fun x h => absurd h (by simp)⟩)
  have HF := Lib.hid hf
  have HRA := Lib.hid hS
  clear hb0 hB0 ho hf hS
  go_enter Try.func51, Try.ntmps51
  go_wp2
  generalize (w.alloc (.cells #[.int .i64 now, .slice A l.length c] 32)).alloc (.cells #[] 46) = w0 at *
  go_loopw [5, 6] (fun v i wr => ∃ (k : Nat) (A5 : Option Addr) (m : List Wri) (c5 : Nat), k ≤ l.length ∧ v = .slice A5 m.length c5 ∧ i = .int .i64 k ∧ m.length ≤ 2 * k ∧ Hid (AS w now A l c A5 m c5 wr)) (fun _ i _ => l.length - (intOf i).toNat)
  case atStart => exact ⟨0, _, [], 0, by omega, rfl, rfl, by simp, HST.out⟩
  case round =>
    clear HST
    obtain ⟨k, A5, m, c5, hk, rfl, rfl, hmk, HA⟩ := hrel
    have r1 : wr.cell? ⟨w.heap.size, 1, none⟩ = some (.slice A l.length c) := HA.out.1.cell 1
    by_cases hlt : k < l.length
    · obtain ⟨b, o, rfl, hbl, c0, c1, c2', c3⟩ := Sl.at4 (HRA.out.below HA.out.2.2.1) hlt
      have HX := Lib.hid (HF.out.2 _ (List.getElem_mem hlt))
      generalize l[k] = x at *
      obtain ⟨xk, xn, xf, xt⟩ := x
      simp only at c0 c1 c2' c3
      have hki : (k : Int) < (l.length : Int) := by omega
      have hba := (Below.refl wr.heap.size wr).alloc (Nat.le_refl _) (.cells #[.string xk, .int .i64 xn, .int .i64 xf, .int .i64 xt] 88)
      have HB7 := Lib.hid (Blk.new wr 88 #[.string xk, .int .i64 xn, .int .i64 xf, .int .i64 xt])
      have HA1 := Lib.hid (HA.out.below hba)
      have hwl := HA.out.2.2.1.size
      have HLT := Lib.hid (show ∀ j, (Value.slice A5 m.length c5).ownBlock = some j → j < wr.heap.size from fun j h => (HA.out.2.1.lt j h).2)
      have hw1 := HA.out.1.lt
      clear hba HA
      have e0 : (wr.alloc (.cells #[.string xk, .int .i64 xn, .int .i64 xf, .int .i64 xt] 88)).cell? ⟨wr.heap.size, 0, none⟩ = some (.string xk) := HB7.out.cell 0
      have e1 : (wr.alloc (.cells #[.string xk, .int .i64 xn, .int .i64 xf, .int .i64 xt] 88)).cell? ⟨wr.heap.size, 1, none⟩ = some (.int .i64 xn) := HB7.out.cell 1
      by_cases hft : xf = t
      case' pos =>
        have d0 : (xf == t) = true := beq_iff_eq.2 hft
        have d1 : decide (xf = t) = true := decide_eq_true hft
        clear hft
        have hbm := (Below.refl (wr.alloc (.cells #[.string xk, .int .i64 xn, .int .i64 xf, .int .i64 xt] 88)).heap.size (wr.alloc (.cells #[.string xk, .int .i64 xn, .int .i64 xf, .int .i64 xt] 88))).alloc (Nat.le_refl _) (.cells #[.string xk, .int .i64 xn, .bool false] 46)
        have HA2 := Lib.hid (HA1.out.below hbm)
        have HB72 := Lib.hid (HB7.out.kept hbm)
        have hX := slw_one (x := (xk, xn, false)) (Blk.new (wr.alloc (.cells #[.string xk, .int .i64 xn, .int .i64 xf, .int .i64 xt] 88)) 46 #[.string xk, .int .i64 xn, .bool false])
        rw [World.size_alloc] at hX
        have HXS := Lib.hid hX
        have H63 := Lib.hid (show m.length + [((xk, xn, false) : Wri)].length ≤ maxLen by unfold maxLen; simp; omega)
        have HBY := Lib.hid (show (m.length + [((xk, xn, false) : Wri)].length) * 32 ≤ 140737488355328 by simp; omega)
        have HBS := Lib.hid (show w.heap.size + 1 ≤ ((wr.alloc (.cells #[.string xk, .int .i64 xn, .int .i64 xf, .int .i64 xt] 88)).alloc (.cells #[.string xk, .int .i64 xn, .bool false] 46)).heap.size by simp; omega)
        clear hbm hX
        go_upto_region 8 with (at_builtin; refine wpList_append_slM (enc := encWri) rfl (.tmp 25) (.tmp 31) 41 rfl (w.heap.size + 1) 46 i0 _ 3 32 Try.underlying41 HI.out.1 HI.out.2.1 HI.out.2.2.1 HI.out.2.2.2 rfl (by decide) (.slice A5 m.length c5) m.length (m.flatMap encWri) rfl HA2.out.2.1 encWri_len (some ⟨wr.heap.size + 1, 0, none⟩) [((xk, xn, false) : Wri)] 1 1 rfl (by first | rfl | simp [Act.eval]) HXS.out (encWri_one _) H63.out HBY.out HBS.out ?_; intro v' w1 hown hgr _; obtain ⟨m2, hm2, ho⟩ : ∃ m2, m2 = m ++ [((xk, xn, false) : Wri)] ∧ OwnW w1 (w.heap.size + 1) v' m2 := ⟨_, rfl, ownW_app hown⟩; obtain ⟨A6, c6, rfl, _, _, hS6⟩ := ho.sl; have HM := Lib.hid (HA2.out.app hgr ho hm2 HX.out); have hml : m2.length ≤ 2 * k + 1 := (by rw [hm2]; simp; omega); have HB73 := Lib.hid (HB72.out.grown hgr (fun e => by have := HLT.out _ e.symm; omega)); clear hown hgr ho hm2 hS6)
      case' neg =>
        have d0 : (xf == t) = false := beq_eq_false_iff_ne.2 hft
        have d1 : decide (xf = t) = false := decide_eq_false hft
        clear hft
        go_upto_region 8 with fail
        obtain ⟨A6, rfl⟩ : ∃ A6 : Option Addr, A6 = A5 := ⟨_, rfl⟩
        obtain ⟨m2, rfl⟩ : ∃ m2 : List Wri, m2 = m := ⟨_, rfl⟩
        obtain ⟨c6, rfl⟩ : ∃ c6 : Nat, c6 = c5 := ⟨_, rfl⟩
        have HM := HA1
        have hml : m2.length ≤ 2 * k + 1 := by omega
        have HB73 := HB7
        clear HA1 HB7 e0 e1
        generalize wr.alloc (.cells #[.string xk, .int .i64 xn, .int .i64 xf, .int .i64 xt] 88) = w1 at *
      all_goals
        have r0 : w1.cell? ⟨w.heap.size, 0, none⟩ = some (.int .i64 now) := HM.out.1.cell 0
        have r1 : w1.cell? ⟨w.heap.size, 1, none⟩ = some (.slice (some ⟨b, o, none⟩) l.length c) := HM.out.1.cell 1
        have f0 : w1.cell? ⟨wr.heap.size, 0, none⟩ = some (.string xk) := HB73.out.cell 0
        have f3 : w1.cell? ⟨wr.heap.size, 3, none⟩ = some (.int .i64 xt) := HB73.out.cell 3
        by_cases htt : xt = t
        case neg =>
          have t0 : (xt == t) = false := beq_eq_false_iff_ne.2 htt
          have t1 : decide (xt = t) = false := decide_eq_false htt
          clear htt
          go_wp2
          go_roundw
          case rel => exact ⟨k + 1, A6, m2, c6, by omega, rfl, by go_num, by omega, HM.out⟩
          case measure => simp [intOf]; omega
        have t0 : (xt == t) = true := beq_iff_eq.2 htt
        have t1 : decide (xt = t) = true := decide_eq_true htt
        clear htt
        have HBG := Lib.hid (begins_any (some ⟨b, o, none⟩) l c now xk t w1 (by omega) (HRA.out.below HM.out.2.2.1))
        go_wp2_with fail
        refine HBG.out.mono ?_
        rintro e w2 ⟨bb, rfl, hb2⟩
        have HM2 := Lib.hid (HM.out.below hb2)
        have HB74 := Lib.hid (HB73.out.kept hb2)
        have hz2 := hb2.size
        clear HBG HM HB73 hb2 r0 r1 f0 f3
        cases bb
        case true =>
          go_wp2
          go_roundw
          case rel => exact ⟨k + 1, A6, m2, c6, by omega, rfl, by go_num, by omega, HM2.out⟩
          case measure => simp [intOf]; omega
        have f0 : w2.cell? ⟨wr.heap.size, 0, none⟩ = some (.string xk) := HB74.out.cell 0
        have hbm := (Below.refl w2.heap.size w2).alloc (Nat.le_refl _) (.cells #[.string xk, .int .i64 0, .bool true] 46)
        have HM3 := Lib.hid (HM2.out.below hbm)
        have HXS := Lib.hid (slw_one (x := (xk, 0, true)) (Blk.new w2 46 #[.string xk, .int .i64 0, .bool true]))
        have H63 := Lib.hid (show m2.length + [((xk, 0, true) : Wri)].length ≤ maxLen by unfold maxLen; simp; omega)
        have HBY := Lib.hid (show (m2.length + [((xk, 0, true) : Wri)].length) * 32 ≤ 140737488355328 by simp; omega)
        have HBS := Lib.hid (show w.heap.size + 1 ≤ (w2.alloc (.cells #[.string xk, .int .i64 0, .bool true] 46)).heap.size by have := HM2.out.1.lt; simp; omega)
        clear hbm
        go_wp2_with (at_builtin; refine wpList_append_slM (enc := encWri) rfl (.tmp 45) (.tmp 49) 41 rfl (w.heap.size + 1) 46 i0 _ 3 32 Try.underlying41 HI.out.1 HI.out.2.1 HI.out.2.2.1 HI.out.2.2.2 rfl (by decide) (.slice A6 m2.length c6) m2.length (m2.flatMap encWri) rfl HM3.out.2.1 encWri_len (some ⟨w2.heap.size, 0, none⟩) [((xk, 0, true) : Wri)] 1 1 rfl (by first | rfl | simp [Act.eval]) HXS.out (encWri_one _) H63.out HBY.out HBS.out ?_; intro v' w3 hown hgr _; obtain ⟨m3, hm3, ho⟩ : ∃ m3, m3 = m2 ++ [((xk, 0, true) : Wri)] ∧ OwnW w3 (w.heap.size + 1) v' m3 := ⟨_, rfl, ownW_app hown⟩; obtain ⟨A8, c8, rfl, _, _, hS8⟩ := ho.sl; have HM4 := Lib.hid (HM3.out.app hgr ho hm3 HX.out); have hml3 : m3.length ≤ 2 * k + 2 := (by rw [hm3]; simp; omega); clear hown hgr ho hm3 hS8)
        go_roundw
        case rel => exact ⟨k + 1, A8, m3, c8, by omega, rfl, by go_num, by omega, HM4.out⟩
        case measure => simp [intOf]; omega
    · obtain rfl : k = l.length := by omega
      have HFW := Lib.hid (show FitsW m from ⟨by unfold maxLen; omega, HA.out.2.2.2⟩)
      go_wp2
      go_ret
      exact ⟨m, _, rfl, HA.out.2.1.leB (by omega), HFW.out, hmk, HA.out.2.2.1⟩
end Go.Proofs.Ytpjkcmmmpgncmaa
