/- The reference's l8Begins, l8At: what was done at a time. The program's PastAll: a range over a function that makes what it hands on. The reference's PastAll, telling what comes; marking rows of writes each in a block of its own, and whether they hold their marks. -/
import Derived.Test.YtpjkcmmmpgncmaaWrA
import Derived.Test.YtpjkcmmmpgncmaaFoldP
import Derived.Test.YtpjkcmmmpgncmaaL8At
import Derived.Test.YtpjkcmmmpgncmaaPlainV
import Derived.Deep.Cut
import Derived.Test.YtpjkcmmmpgncmaaWritesAt
import Derived.Test.YtpjkcmmmpgncmaaSPastAll
import Derived.Test.YtpjkcmmmpgncmaaImplAt
namespace Go.Proofs.Ytpjkcmmmpgncmaa
open Go.RowKit
set_option maxRecDepth 100000 in
set_option maxHeartbeats 1000000 in
theorem beginsF_any (A : Option Addr) (l : List Ver) (c : Nat) (now : Int) (key : ByteArray) (t : Int) (w : World) (hn : l.length ≤ 1048576) (hS : Sl encVer 4 w A l) :
    Calls Try.prog 88 #[.agg #[.int .i64 now, .slice A l.length c], .string key, .int .i64 t] w fun e w' => e = .returned (.bool (begB l key t)) ∧ Below w.heap.size w w' := by
  have hb0 := (Below.refl w.heap.size w).alloc (Nat.le_refl _) (.cells #[.int .i64 now, .slice A l.length c] 32)
  have hB0 := Blk.new w 32 #[.int .i64 now, .slice A l.length c]
  go_enter Try.func88, Try.ntmps88
  go_wp2
  go_loopw [7] (fun i wr => ∃ k : Nat, k ≤ l.length ∧ i = .int .i64 k ∧ Hid (begB (l.take k) key t = false) ∧ Blk wr w.heap.size 32 #[.int .i64 now, .slice A l.length c] ∧ Below w.heap.size w wr) (fun i _ => l.length - (intOf i).toNat)
  case atStart => exact ⟨0, by omega, rfl, Lib.hid rfl, hB0, hb0⟩
  case round =>
    obtain ⟨k, hk, rfl, HNB, hB, hb⟩ := hrel
    have r1 : wr.cell? ⟨w.heap.size, 1, none⟩ = some (.slice A l.length c) := hB.cell 1
    clear hB0 hb0
    by_cases hlt : k < l.length
    · obtain ⟨b, o, rfl, hbl, c0, _, c2', _⟩ := Sl.at4 (hS.below hb) hlt
      have HTB := Lib.hid (begB_take (key := key) (t := t) hlt)
      have HXM := Lib.hid (List.getElem_mem hlt)
      generalize l[k] = x at *
      obtain ⟨xk, xn, xf, xt⟩ := x
      simp only at c0 c2'
      have hki : (k : Int) < (l.length : Int) := by omega
      have HB := Lib.hid hB
      clear hS hB
      cases hke : (xk.toList == key.toList)
      · have HN2 : Hid (begB (l.take (k + 1)) key t = false) := Lib.hid (by rw [HTB.out, HNB.out]; rw [bytes_beq] at hke; simp at hke; simp [hke])
        clear HTB
        go_wp2
        go_roundw
        case rel => exact ⟨k + 1, by omega, by go_num, HN2, HB.out, hb⟩
        case measure => simp [intOf]; omega
      · by_cases hft : xf = t
        · have d0 : (xf == t) = true := beq_iff_eq.2 hft
          have d1 : decide (xf = t) = true := decide_eq_true hft
          have HBY : Hid (begB l key t = true) := Lib.hid (begB_hit HXM.out (by rw [bytes_beq] at hke; simpa using hke) hft)
          clear hft HTB
          go_wp2
          go_ret
          first | exact ⟨ret_bool HBY.out.symm, hb⟩ | exact ⟨by rw [HBY.out], hb⟩
        · have d0 : (xf == t) = false := beq_eq_false_iff_ne.2 hft
          have d1 : decide (xf = t) = false := decide_eq_false hft
          have HN2 : Hid (begB (l.take (k + 1)) key t = false) := Lib.hid (by rw [HTB.out, HNB.out]; simp [hft])
          clear hft HTB
          go_wp2
          go_roundw
          case rel => exact ⟨k + 1, by omega, by go_num, HN2, HB.out, hb⟩
          case measure => simp [intOf]; omega
    · obtain rfl : k = l.length := by omega
      rw [List.take_length] at HNB
      go_wp2
      go_ret
      first | exact ⟨ret_bool HNB.out.symm, hb⟩ | exact ⟨by rw [HNB.out], hb⟩
set_option maxRecDepth 100000 in
set_option maxHeartbeats 3000000 in
theorem l8AtF_any (A : Option Addr) (l : List Ver) (c : Nat) (now t : Int) (w : World) (hf : FitsV l) (hn : l.length ≤ 1000) (hS : Sl encVer 4 w A l) :
    Calls Try.prog 51 #[.agg #[.int .i64 now, .slice A l.length c], .int .i64 t] w fun e w' => ∃ v : Value, e = .returned v ∧ OwnW w' w.heap.size v (l8L l t) ∧ FitsW (l8L l t) ∧ (l8L l t).length ≤ 2 * l.length ∧ Below w.heap.size w w' := by
  obtain ⟨i0, hi, hz0, hz1, hz2⟩ := info_parts infoWri
  have HI := Lib.hid (⟨hi, hz0, hz1, hz2⟩ : _ ∧ _ ∧ _ ∧ _)
  clear hi hz0 hz1 hz2
  have hb0 := ((Below.refl w.heap.size w).alloc (Nat.le_refl _) (.cells #[.int .i64 now, .slice A l.length c] 32)).alloc (by simp) (.cells #[] 46)
  have hB0 := (Blk.new w 32 #[.int .i64 now, .slice A l.length c]).alloc (.cells #[] 46)
  have ho := own_empty (w := w.alloc (.cells #[.int .i64 now, .slice A l.length c] 32))
  rw [World.size_alloc] at ho
  have HST := Lib.hid (show AS w now A l c (some ⟨w.heap.size + 1, 0, none⟩) [] 0 ((w.alloc (.cells #[.int .i64 now, .slice A l.length c] 32)).alloc (.cells #[] 46)) from ⟨hB0, ho, hb0, fun x h => absurd h (by simp)⟩)
  have HF := Lib.hid hf
  have HRA := Lib.hid hS
  clear hb0 hB0 ho hf hS
  go_enter Try.func51, Try.ntmps51
  go_wp2
  generalize (w.alloc (.cells #[.int .i64 now, .slice A l.length c] 32)).alloc (.cells #[] 46) = w0 at *
  go_loopw [5, 6] (fun v i wr => ∃ (k : Nat) (A5 : Option Addr) (m : List Wri) (c5 : Nat), k ≤ l.length ∧ v = .slice A5 m.length c5 ∧ i = .int .i64 k ∧ m.length ≤ 2 * k ∧ Hid (m = (l.take k).flatMap (one8 l t)) ∧ Hid (AS w now A l c A5 m c5 wr)) (fun _ i _ => l.length - (intOf i).toNat)
  case atStart => exact ⟨0, _, [], 0, by omega, rfl, rfl, by simp, Lib.hid (by simp), HST.out⟩
  case round =>
    clear HST
    obtain ⟨k, A5, m, c5, hk, rfl, rfl, hmk, HMK, HA⟩ := hrel
    have r1 : wr.cell? ⟨w.heap.size, 1, none⟩ = some (.slice A l.length c) := HA.out.1.cell 1
    by_cases hlt : k < l.length
    · obtain ⟨b, o, rfl, hbl, c0, c1, c2', c3⟩ := Sl.at4 (HRA.out.below HA.out.2.2.1) hlt
      have HX := Lib.hid (HF.out.2 _ (List.getElem_mem hlt))
      have HTK := Lib.hid (flat_take (one8 l t) hlt)
      generalize l[k] = x at *
      obtain ⟨xk, xn, xf, xt⟩ := x
      simp only at c0 c1 c2' c3
      have hki : (k : Int) < (l.length : Int) := by omega
      have hba := (Below.refl wr.heap.size wr).alloc (Nat.le_refl _) (.cells #[.string xk, .int .i64 xn, .int .i64 xf, .int .i64 xt] 88)
      have HB7 := Lib.hid (Blk.new wr 88 #[.string xk, .int .i64 xn, .int .i64 xf, .int .i64 xt])
      have HA1 := Lib.hid (HA.out.below hba)
      have hwl := HA.out.2.2.1.size
      have HLT := Lib.hid (show ∀ j, (Value.slice A5 m.length c5).ownBlock = some j → j < wr.heap.size from fun j h => (HA.out.2.1.lt j h).2)
      have hw1 := HA.out.1.lt
      clear hba HA
      have e0 : (wr.alloc (.cells #[.string xk, .int .i64 xn, .int .i64 xf, .int .i64 xt] 88)).cell? ⟨wr.heap.size, 0, none⟩ = some (.string xk) := HB7.out.cell 0
      have e1 : (wr.alloc (.cells #[.string xk, .int .i64 xn, .int .i64 xf, .int .i64 xt] 88)).cell? ⟨wr.heap.size, 1, none⟩ = some (.int .i64 xn) := HB7.out.cell 1
      by_cases hft : xf = t
      case' pos =>
        have d0 : (xf == t) = true := beq_iff_eq.2 hft
        have d1 : decide (xf = t) = true := decide_eq_true hft
        have HFT := Lib.hid (show (if xf = t then [((xk, xn, false) : Wri)] else []) = [(xk, xn, false)] from if_pos hft)
        clear hft
        have hbm := (Below.refl (wr.alloc (.cells #[.string xk, .int .i64 xn, .int .i64 xf, .int .i64 xt] 88)).heap.size (wr.alloc (.cells #[.string xk, .int .i64 xn, .int .i64 xf, .int .i64 xt] 88))).alloc (Nat.le_refl _) (.cells #[.string xk, .int .i64 xn, .bool false] 46)
        have HA2 := Lib.hid (HA1.out.below hbm)
        have HB72 := Lib.hid (HB7.out.kept hbm)
        have hX := slw_one (x := (xk, xn, false)) (Blk.new (wr.alloc (.cells #[.string xk, .int .i64 xn, .int .i64 xf, .int .i64 xt] 88)) 46 #[.string xk, .int .i64 xn, .bool false])
        rw [World.size_alloc] at hX
        have HXS := Lib.hid hX
        have H63 := Lib.hid (show m.length + [((xk, xn, false) : Wri)].length ≤ maxLen by unfold maxLen; simp; omega)
        have HBY := Lib.hid (show (m.length + [((xk, xn, false) : Wri)].length) * 32 ≤ 140737488355328 by simp; omega)
        have HBS := Lib.hid (show w.heap.size + 1 ≤ ((wr.alloc (.cells #[.string xk, .int .i64 xn, .int .i64 xf, .int .i64 xt] 88)).alloc (.cells #[.string xk, .int .i64 xn, .bool false] 46)).heap.size by simp; omega)
        clear hbm hX
        go_upto_region 8 with (at_builtin; refine wpList_append_slM (enc := encWri) rfl (.tmp 25) (.tmp 31) 41 rfl (w.heap.size + 1) 46 i0 _ 3 32 Try.underlying41 HI.out.1 HI.out.2.1 HI.out.2.2.1 HI.out.2.2.2 rfl (by decide) (.slice A5 m.length c5) m.length (m.flatMap encWri) rfl HA2.out.2.1 encWri_len (some ⟨wr.heap.size + 1, 0, none⟩) [((xk, xn, false) : Wri)] 1 1 rfl (by first | rfl | simp [Act.eval]) HXS.out (encWri_one _) H63.out HBY.out HBS.out ?_; intro v' w1 hown hgr _; obtain ⟨m2, hm2, ho⟩ : ∃ m2, m2 = m ++ [((xk, xn, false) : Wri)] ∧ OwnW w1 (w.heap.size + 1) v' m2 := ⟨_, rfl, ownW_app hown⟩; obtain ⟨A6, c6, rfl, _, _, hS6⟩ := ho.sl; have HM := Lib.hid (HA2.out.app hgr ho hm2 HX.out); have hml : m2.length ≤ 2 * k + 1 := (by rw [hm2]; simp; omega); have HP := Lib.hid (show m2 = (l.take k).flatMap (one8 l t) ++ (if xf = t then [((xk, xn, false) : Wri)] else []) from (by rw [hm2, HMK.out, HFT.out])); have HB73 := Lib.hid (HB72.out.grown hgr (fun e => by have := HLT.out _ e.symm; omega)); clear hown hgr ho hm2 hS6)
      case' neg =>
        have d0 : (xf == t) = false := beq_eq_false_iff_ne.2 hft
        have d1 : decide (xf = t) = false := decide_eq_false hft
        have HFT := Lib.hid (show (if xf = t then [((xk, xn, false) : Wri)] else []) = [] from if_neg hft)
        clear hft
        go_upto_region 8 with fail
        obtain ⟨A6, rfl⟩ : ∃ A6 : Option Addr, A6 = A5 := ⟨_, rfl⟩
        obtain ⟨m2, rfl⟩ : ∃ m2 : List Wri, m2 = m := ⟨_, rfl⟩
        obtain ⟨c6, rfl⟩ : ∃ c6 : Nat, c6 = c5 := ⟨_, rfl⟩
        have HM := HA1
        have hml : m2.length ≤ 2 * k + 1 := by omega
        have HP := Lib.hid (show m2 = (l.take k).flatMap (one8 l t) ++ (if xf = t then [((xk, xn, false) : Wri)] else []) from (by rw [HMK.out, HFT.out]; simp))
        have HB73 := HB7
        clear HA1 HB7 e0 e1
        generalize wr.alloc (.cells #[.string xk, .int .i64 xn, .int .i64 xf, .int .i64 xt] 88) = w1 at *
      all_goals
        have r0 : w1.cell? ⟨w.heap.size, 0, none⟩ = some (.int .i64 now) := HM.out.1.cell 0
        have r1 : w1.cell? ⟨w.heap.size, 1, none⟩ = some (.slice (some ⟨b, o, none⟩) l.length c) := HM.out.1.cell 1
        have f0 : w1.cell? ⟨wr.heap.size, 0, none⟩ = some (.string xk) := HB73.out.cell 0
        have f3 : w1.cell? ⟨wr.heap.size, 3, none⟩ = some (.int .i64 xt) := HB73.out.cell 3
        by_cases htt : xt = t
        case neg =>
          have t0 : (xt == t) = false := beq_eq_false_iff_ne.2 htt
          have t1 : decide (xt = t) = false := decide_eq_false htt
          have HK2 := Lib.hid (show m2 = (l.take (k + 1)).flatMap (one8 l t) from (by rw [HTK.out, HP.out]; rw [one8_no (fun h => htt h.1)]))
          clear htt
          go_wp2
          go_roundw
          case rel => exact ⟨k + 1, A6, m2, c6, by omega, rfl, by go_num, by omega, HK2, HM.out⟩
          case measure => simp [intOf]; omega
        have t0 : (xt == t) = true := beq_iff_eq.2 htt
        have t1 : decide (xt = t) = true := decide_eq_true htt
        have HTT := Lib.hid htt
        clear htt
        have HBG := Lib.hid (beginsF_any (some ⟨b, o, none⟩) l c now xk t w1 (by omega) (HRA.out.below HM.out.2.2.1))
        go_wp2_with fail
        refine HBG.out.mono ?_
        rintro e w2 ⟨rfl, hb2⟩
        obtain ⟨bb, hbb⟩ : ∃ bb, bb = begB l xk t := ⟨_, rfl⟩
        rw [← hbb]
        have HBB := Lib.hid hbb
        clear hbb
        have HM2 := Lib.hid (HM.out.below hb2)
        have HB74 := Lib.hid (HB73.out.kept hb2)
        have hz2 := hb2.size
        clear HBG HM HB73 hb2 r0 r1 f0 f3
        cases bb
        case true =>
          have HK2 := Lib.hid (show m2 = (l.take (k + 1)).flatMap (one8 l t) from (by rw [HTK.out, HP.out]; rw [one8_no (x := (xk, xn, xf, xt)) (fun h => by have h2 := h.2; rw [show begB l (xk, xn, xf, xt).1 t = true from HBB.out.symm] at h2; cases h2)]))
          go_wp2
          go_roundw
          case rel => exact ⟨k + 1, A6, m2, c6, by omega, rfl, by go_num, by omega, HK2, HM2.out⟩
          case measure => simp [intOf]; omega
        have f0 : w2.cell? ⟨wr.heap.size, 0, none⟩ = some (.string xk) := HB74.out.cell 0
        have hbm := (Below.refl w2.heap.size w2).alloc (Nat.le_refl _) (.cells #[.string xk, .int .i64 0, .bool true] 46)
        have HM3 := Lib.hid (HM2.out.below hbm)
        have HXS := Lib.hid (slw_one (x := (xk, 0, true)) (Blk.new w2 46 #[.string xk, .int .i64 0, .bool true]))
        have H63 := Lib.hid (show m2.length + [((xk, 0, true) : Wri)].length ≤ maxLen by unfold maxLen; simp; omega)
        have HBY := Lib.hid (show (m2.length + [((xk, 0, true) : Wri)].length) * 32 ≤ 140737488355328 by simp; omega)
        have HBS := Lib.hid (show w.heap.size + 1 ≤ (w2.alloc (.cells #[.string xk, .int .i64 0, .bool true] 46)).heap.size by have := HM2.out.1.lt; simp; omega)
        clear hbm
        go_wp2_with (at_builtin; refine wpList_append_slM (enc := encWri) rfl (.tmp 45) (.tmp 49) 41 rfl (w.heap.size + 1) 46 i0 _ 3 32 Try.underlying41 HI.out.1 HI.out.2.1 HI.out.2.2.1 HI.out.2.2.2 rfl (by decide) (.slice A6 m2.length c6) m2.length (m2.flatMap encWri) rfl HM3.out.2.1 encWri_len (some ⟨w2.heap.size, 0, none⟩) [((xk, 0, true) : Wri)] 1 1 rfl (by first | rfl | simp [Act.eval]) HXS.out (encWri_one _) H63.out HBY.out HBS.out ?_; intro v' w3 hown hgr _; obtain ⟨m3, hm3, ho⟩ : ∃ m3, m3 = m2 ++ [((xk, 0, true) : Wri)] ∧ OwnW w3 (w.heap.size + 1) v' m3 := ⟨_, rfl, ownW_app hown⟩; obtain ⟨A8, c8, rfl, _, _, hS8⟩ := ho.sl; have HM4 := Lib.hid (HM3.out.app hgr ho hm3 HX.out); have hml3 : m3.length ≤ 2 * k + 2 := (by rw [hm3]; simp; omega); have HK2 := Lib.hid (show m3 = (l.take (k + 1)).flatMap (one8 l t) from (by rw [hm3, HTK.out, HP.out]; rw [one8_yes (x := (xk, xn, xf, xt)) ⟨HTT.out, HBB.out.symm⟩, List.append_assoc])); clear hown hgr ho hm3 hS8)
        go_roundw
        case rel => exact ⟨k + 1, A8, m3, c8, by omega, rfl, by go_num, by omega, HK2, HM4.out⟩
        case measure => simp [intOf]; omega
    · obtain rfl : k = l.length := by omega
      have HFW := Lib.hid (show FitsW m from ⟨by unfold maxLen; omega, HA.out.2.2.2⟩)
      rw [List.take_length] at HMK
      have HML := Lib.hid (show l8L l t = m from HMK.out.symm)
      go_wp2
      go_ret
      exact ⟨_, rfl, by rw [HML.out]; exact HA.out.2.1.leB (by omega), by rw [HML.out]; exact HFW.out, by rw [HML.out]; exact hmk, HA.out.2.2.1⟩
end Go.Proofs.Ytpjkcmmmpgncmaa
namespace Go.Proofs.Ytpjkcmmmpgncmaa
open Go.RowKit Go.Shelf
attribute [local go_sem] Oper.semAt_some
section
variable {F : Fence} {n : Nat} {P : Program}
/-- an iterator's word where it hands on what it has made: G tells of it, in the world ahead of its making and the one behind -/
def SeqG {α : Type} (F : Fence) (n : Nat) (P : Program) (g : Nat) (lb : Array Value) (encs : α → Array Value) (Kp : World → World → Prop) (G : α → World → World → Prop) (S : List α → Prop) (N : Nat) (w : World) : Prop :=
  ∀ (l : Nat) (J : List α → World → Prop) (W : World), Below w.heap.size w W → (∀ s A B, J s A → Below A.heap.size A B → J s B) →
    (∀ pre x W0 W1, J pre W0 → Below W0.heap.size W0 W1 → G x W0 W1 → pre.length < N → YieldAt F (n - 1) P l (encs x) W1 fun e W' => e = .returned (.bool true) ∧ J (pre ++ [x]) W' ∧ Kp W1 W') →
    J [] W → CallsIn F n P g (#[.func (.yield l) #[] #[]] ++ lb) W fun e W' => (∃ v, e = .returned v) ∧ ∃ xs, S xs ∧ J xs W'
/-- the range over it, a body that always goes on -/
theorem rangeG {α : Type} {g : Operand} {ps : Array Tmp} {assign body : Code} {Q : Exit → Act → World → Prop} {a : Act} {w : World}
    (hro : F.round = none) (h1 : 1 ≤ n) {gf : Nat} {lb : Array Value} (hg : a.eval g = .func (.func gf) #[] lb) (hFg : F.fn gf) (eg : ∀ args w, (callFunc gf args).run P w = .ok (.enter gf args) w)
    {encs : α → Array Value} {Kp : World → World → Prop} {G : α → World → World → Prop} {S : List α → Prop} {N : Nat} {w0 : World} (hseq : SeqG F (n - 1) P gf lb encs Kp G S N w0)
    (hKt : ∀ {A B C : World}, Kp A B → Kp B C → Kp A C) (hKb : ∀ (W : World) (l : Nat) (o' : Obj), w.heap.size ≤ l → Kp W (W.putObj l o')) (hb0 : Below w0.heap.size w0 w) (hps : ∀ x, (encs x).size = ps.size)
    (I : List α → World → Prop) (hI : OwnFrom w.heap.size I) (H : List α → α → World → Prop) (hH : ∀ pre x W0 W1, I pre W0 → Below W0.heap.size W0 W1 → G x W0 W1 → H pre x W1)
    (hHo : ∀ pre x, OwnFrom w.heap.size (fun (_ : Unit) W => H pre x W)) (h0 : I [] w) (a₁ : α → Act)
    (hassign : ∀ (l : Nat) (x : α) (W : World) (K : Act → World → Prop), K (a₁ x) W →
      assign.wpIn (F.inRound l) (n - 1 - 1) P (Exit.then K (fun _ _ _ => False)) { tmps := (ps.zip (encs x)).foldl (fun t (p, v) => t.setIfInBounds p v) a.tmps, defers := [] } W)
    (hbody : ∀ (l : Nat) (pre : List α) (x : α) (W : World), H pre x W → pre.length < N → body.wpIn (F.inRound l) (n - 1 - 1) P (fun e _ W' => e = .normal ∧ KeepsFrom w.heap.size W W' ∧ Kp W W' ∧ I (pre ++ [x]) W') (a₁ x) W)
    (hdone : ∀ (D : Nat) (xs : List α) (W : World), w.heap.size ≤ D → S xs → I xs W → W.heap[D]? = some (.deferred (some [])) → Q .normal { a with defers := { target := .collected D, args := #[] } :: a.defers } W) :
    (Code.rangeFunc g ps assign body).wpIn F n P Q a w := by
  refine wpIn_rangeFunc fun fn hfn => ?_
  rw [hro]
  have hIB : ∀ s A B, I s A → Below A.heap.size A B → I s B := fun s A B h hb => hI s A B none h (grown_none hb) (fun r e => by cases e)
  generalize hrec : (fun st pe => ({ state := st, pending := pe, fn, tmps := a.tmps, params := ps, assign, body, defers := w.heap.size } : Loop)) = rec
  have hr0 : ({ state := .ready, pending := none, fn, tmps := a.tmps, params := ps, assign, body, defers := w.heap.size } : Loop) = rec .ready none := by rw [← hrec]
  have hent := run_enterLoop_outer (P := P) (w := w) fn a.tmps ps assign body
  rw [hr0] at hent
  have hbe : Below w.heap.size w ((w.alloc (.deferred (some []))).alloc (.loop (rec .ready none))) := ((Below.refl _ w).alloc (Nat.le_refl _) _).alloc (by simp) _
  have hL1 : ((w.alloc (.deferred (some []))).alloc (.loop (rec .ready none))).heap[w.heap.size + 1]? = some (.loop (rec .ready none)) := by
    have := World.alloc_heap_new (w.alloc (.deferred (some []))) (.loop (rec .ready none)); rwa [World.size_alloc] at this
  have hD1 : ((w.alloc (.deferred (some []))).alloc (.loop (rec .ready none))).heap[w.heap.size]? = some (.deferred (some [])) := (Below.heap_alloc _ _ _ (by simp)).trans (World.alloc_heap_new w _)
  have hI1 : I [] ((w.alloc (.deferred (some []))).alloc (.loop (rec .ready none))) := hIB _ _ _ h0 hbe
  generalize (w.alloc (.deferred (some []))).alloc (.loop (rec .ready none)) = W1 at *
  refine ⟨w.heap.size + 1, _, W1, { target := .fn (.func gf) lb, args := #[.func (.yield (w.heap.size + 1)) #[] #[]] }, W1, gf, #[.func (.yield (w.heap.size + 1)) #[] #[]] ++ lb, W1, hent, ?_, ?_, ?_, fun _ => h1, ?_⟩
  · simp only [resolve, hg]
    simp [go_sem]
  · intro f' hf'; simp [Target.leads] at hf'; subst hf'; exact hFg
  · simp [invoke, go_sem, eg]
  have hlt_of : ∀ {W : World} {k : Nat} {o : Obj}, W.heap[k]? = some o → k < W.heap.size := fun h => (Array.getElem?_eq_some_iff.1 h).1
  refine (hseq (w.heap.size + 1) (fun pre W => I pre W ∧ W.heap[w.heap.size + 1]? = some (.loop (rec .ready none)) ∧ W.heap[w.heap.size]? = some (.deferred (some []))) W1 (hb0.trans (hbe.mono hb0.size))
    (fun s A B h hb => ⟨hIB s A B h.1 hb, (hb.block _ (hlt_of h.2.1)).trans h.2.1, (hb.block _ (hlt_of h.2.2)).trans h.2.2⟩) ?_ ⟨hI1, hL1, hD1⟩).mono ?_
  · rintro pre x W0 W ⟨hi, hl0, hd0⟩ hb hG hlen
    have hl := (hb.block _ (hlt_of hl0)).trans hl0
    have hd := (hb.block _ (hlt_of hd0)).trans hd0
    have hx := hH pre x W0 W hi hb hG
    have hy := run_yield (P := P) (args := encs x) hl (by rw [← hrec]; exact hps x)
    rw [← hrec] at hy
    refine ⟨fn, _, assign, body, hy, roundIn_of_wpIn hfn (hassign _ x W _ ?_)⟩
    refine ⟨_, run_beginRound hl (by rw [← hrec]), ?_⟩
    have hlb := hlt_of hl
    have hl2 : (W.putObj (w.heap.size + 1) (.loop { rec .ready none with state := .busy })).heap[w.heap.size + 1]? = some (.loop { rec .ready none with state := .busy }) := World.putObj_heap_same hlb
    have hd2 : (W.putObj (w.heap.size + 1) (.loop { rec .ready none with state := .busy })).heap[w.heap.size]? = some (.deferred (some [])) := (World.putObj_heap_other (by omega)).trans hd
    have hx2 := (hHo pre x).putObj (s := ()) (.loop { rec .ready none with state := .busy }) hx (by omega) hl rfl
    have hk2 := hKb W (w.heap.size + 1) (.loop { rec .ready none with state := .busy }) (by omega)
    generalize W.putObj (w.heap.size + 1) (.loop { rec .ready none with state := .busy }) = W2 at *
    refine wpIn_mono (hbody _ pre x W2 hx2 hlen) ?_
    rintro e a3 W3 ⟨rfl, hkf, hkp, hi3⟩
    have hl3 := hkf.same _ _ (by omega) hl2 rfl
    have hd3 := hkf.same _ _ (Nat.le_refl _) hd2 rfl
    have hend := run_endRound (P := P) none hl3
    rw [← hrec] at hend
    refine ⟨_, _, hend, rfl, ⟨hI.putObj _ hi3 (by omega) hl3 rfl, ?_, (World.putObj_heap_other (by omega)).trans hd3⟩, hKt hk2 (hKt hkp (hKb _ _ _ (by omega)))⟩
    rw [← hrec]
    exact World.putObj_heap_same (hlt_of hl3)
  · rintro e W2 ⟨⟨v, rfl⟩, xs, hS, hi, hl, hd⟩
    have hend := run_endLoop (P := P) hl (by rw [← hrec]; simp)
    rw [← hrec] at hend
    exact ⟨none, _, hend, hdone _ xs _ (Nat.le_refl _) hS (hI.putObj _ hi (by omega) hl rfl) ((World.putObj_heap_other (by omega)).trans hd)⟩
end
theorem l8L_len (l : List Ver) (t : Int) : (l8L l t).length ≤ 2 * l.length := by
  have h1 : ∀ (m : List Ver), (m.flatMap (one8 l t)).length ≤ 2 * m.length := by
    intro m
    induction m with
    | nil => simp
    | cons x m ih =>
      rw [List.flatMap_cons, List.length_append, List.length_cons]
      have : (one8 l t x).length ≤ 2 := by unfold one8; split <;> split <;> simp
      omega
  exact h1 l
theorem l8L_fits {l : List Ver} (hf : FitsV l) (hl : l.length ≤ 60) (t : Int) : FitsW (l8L l t) ∧ (l8L l t).length ≤ 120 := by
  have := l8L_len l t
  refine ⟨⟨by unfold maxLen; omega, fun x hx => ?_⟩, by omega⟩
  rcases l8L_mem.1 hx with ⟨y, hy, _, rfl⟩ | ⟨y, hy, _, _, rfl⟩
  · exact hf.2 y hy
  · exact hf.2 y hy
abbrev TRa : Type := Int × Wrow
abbrev argT (x : TRa) : Array Value := #[.int .i64 x.1, .slice x.2.1 x.2.2.2.length x.2.2.1]
/-- what the iterator hands on is a row of writes that it has just made -/
def GT (x : TRa) (W0 W1 : World) : Prop := OwnW W1 W0.heap.size (.slice x.2.1 x.2.2.2.length x.2.2.1) x.2.2.2 ∧ FitsW x.2.2.2 ∧ x.2.2.2.length ≤ 120
/-- what was done, at each time up to one -/
def doneL (l : List Ver) (k : Nat) : List (List Wri) := (List.range k).map (fun (i : Nat) => l8L l ((i : Int) + 1))
theorem doneL_succ (l : List Ver) (k : Nat) : doneL l (k + 1) = doneL l k ++ [l8L l ((k : Int) + 1)] := by unfold doneL; rw [List.range_succ, List.map_append]; rfl
theorem doneL_len (l : List Ver) (k : Nat) : (doneL l k).length = k := by simp [doneL]
set_option maxRecDepth 100000 in
set_option maxHeartbeats 2000000 in
theorem times1_in (n : Nat) (hn : 1 ≤ n) (l Bv N0 bs c : Nat) (A : Option Addr) (vs : List Ver) (now : Int) (w0 : World) (hf : FitsV vs) (hv : versB now vs = true) (J : List TRa → World → Prop) (W : World)
    (_ : ∀ s A B, J s A → Below A.heap.size A B → J s B)
    (hY : ∀ pre x W0 W1, J pre W0 → Below W0.heap.size W0 W1 → GT x W0 W1 → pre.length < now.toNat → YieldAt Fence.wide (n - 1) Try.prog l (argT x) W1 fun e W' => e = .returned (.bool true) ∧ J (pre ++ [x]) W' ∧ KpB N0 bs W1 W')
    (hS : Sl encVer 4 w0 A vs) (hw0 : w0.heap.size ≤ bs) (hbs : bs < N0) (hbb : Below w0.heap.size w0 W) (hN : N0 ≤ W.heap.size) (hv0 : W.cell? ⟨Bv, 0, none⟩ = some (.int .i64 now)) (hv1 : W.cell? ⟨Bv, 1, none⟩ = some (.slice A vs.length c)) (hvN : Bv < N0 ∧ Bv ≠ bs) (h0 : J [] W) :
    CallsIn Fence.wide n Try.prog 109 #[.func (.yield l) #[] #[], .pointer (some ⟨Bv, 0, none⟩)] W fun e W' => (∃ v, e = .returned v) ∧ ∃ xs, xs.map (fun x : TRa => x.2.2.2) = doneL vs now.toNat ∧ J xs W' := by
  have hn40 := (versB_out hv).1
  refine callsIn_of_wp Try.func109 rfl trivial ?_ rfl
  simp only [Try.ntmps109, List.size_toArray, List.length_cons, List.length_nil, Nat.reduceAdd, Nat.reduceSub, Array.replicate_succ, Array.replicate_zero, List.push_toArray, List.append_toArray, List.nil_append, List.cons_append]
  gi_wp2
  gi_loopw [3] (fun i wr => ∃ (k : Nat) (pre : List TRa), (k : Int) ≤ now ∧ i = .int .i64 ((k : Int) + 1) ∧ pre.length = k ∧ Hid (pre.map (fun x : TRa => x.2.2.2) = doneL vs k) ∧ J pre wr ∧ KpB N0 bs W wr)
    (fun i _ => (now + 1 - intOf i).toNat)
  case atStart => exact ⟨0, [], by omega, rfl, rfl, Lib.hid rfl, h0, KpB.refl _ _ _⟩
  case round =>
    obtain ⟨k, pre, hk, rfl, hpl, HD, hJs, hnx⟩ := hrel
    have x0 : wr.cell? ⟨Bv, 0, none⟩ = some (.int .i64 now) := (hnx.cell hvN.1 hvN.2).trans hv0
    have x1 : wr.cell? ⟨Bv, 1, none⟩ = some (.slice A vs.length c) := (hnx.cell hvN.1 hvN.2).trans hv1
    have hsz := hnx.1
    by_cases hlt : (k : Int) + 1 ≤ now
    · have d0 : decide ((k : Int) + 1 ≤ now) = true := decide_eq_true hlt
      have HW := Lib.hid (writesAt_any A vs c now ((k : Int) + 1) wr hf hv (by omega) (hnx.sl hS hw0 hbs hbb))
      have HFT := Lib.hid (l8L_fits hf hn40.2.2 ((k : Int) + 1))
      have HDS := Lib.hid (doneL_succ vs k)
      generalize l8L vs ((k : Int) + 1) = T at *
      gi_wp2_with fail
      refine ⟨trivial, callsIn_wide.2 (HW.out.mono ?_)⟩
      rintro e w1 ⟨v, rfl, ho, hb1⟩
      obtain ⟨A', c', rfl, _, _, _⟩ := ho.sl
      obtain ⟨fn, tmps, assign, body, hy, hR⟩ := hY pre ((k : Int) + 1, A', c', T) wr w1 hJs hb1 ⟨ho, HFT.out⟩ (by omega)
      have hn1 := hnx.trans (KpB.of_below (bs := bs) hb1 (by omega))
      have HPL := Lib.hid (show (pre ++ [((k : Int) + 1, A', c', T)]).length = k + 1 by rw [List.length_append, hpl]; rfl)
      have HPM := Lib.hid (show (pre ++ [((k : Int) + 1, A', c', T)]).map (fun x : TRa => x.2.2.2) = doneL vs (k + 1) by rw [List.map_append, HD.out, HDS.out]; rfl)
      clear HW ho hb1 hJs x0 x1 d0
      gi_wp2
      refine hR.mono ?_
      rintro e W3 ⟨rfl, hJ3, hk3⟩
      gi_wp2
      go_roundw
      case rel => exact ⟨k + 1, _, by omega, by go_num, HPL.out, HPM, hJ3, hn1.trans hk3⟩
      case measure => simp [intOf]; omega
    · have d0 : decide ((k : Int) + 1 ≤ now) = false := decide_eq_false hlt
      obtain rfl : k = now.toNat := by omega
      gi_wp2
      go_end0
      exact ⟨⟨_, rfl⟩, pre, HD.out, hJs⟩
theorem times_in (n : Nat) (A : Option Addr) (m c : Nat) (now : Int) (w : World) :
    CallsIn Fence.wide n Try.prog 66 #[.agg #[.int .i64 now, .slice A m c]] w fun e w' => e = .returned (.func (.func 109) #[] #[.pointer (some ⟨w.heap.size, 0, none⟩)]) ∧
      w' = w.alloc (.cells #[.int .i64 now, .slice A m c] 32) := by
  refine callsIn_of_wp Try.func66 rfl trivial ?_ rfl
  simp only [Try.ntmps66, List.size_toArray, List.length_cons, List.length_nil, Nat.reduceAdd, Nat.reduceSub, Array.replicate_succ, Array.replicate_zero, List.push_toArray, List.append_toArray, List.nil_append, List.cons_append]
  gi_wp2
  go_ret
  exact ⟨rfl, rfl⟩
theorem times_seq (n : Nat) (hn : 1 ≤ n) (Bv bs c : Nat) (A : Option Addr) (vs : List Ver) (now : Int) (w0 w : World) (hf : FitsV vs) (hv : versB now vs = true)
    (hS : Sl encVer 4 w0 A vs) (hw0 : w0.heap.size ≤ bs) (hbs : bs < w.heap.size) (hbb : Below w0.heap.size w0 w) (hB : Blk w Bv 32 #[.int .i64 now, .slice A vs.length c]) (hvN : Bv ≠ bs) :
    SeqG Fence.wide n Try.prog 109 #[.pointer (some ⟨Bv, 0, none⟩)] argT (KpB w.heap.size bs) GT (fun xs => xs.map (fun x : TRa => x.2.2.2) = doneL vs now.toNat) now.toNat w := fun l J W hW hJ hY h0 =>
  times1_in n hn l Bv w.heap.size bs c A vs now w0 hf hv J W hJ hY hS hw0 hbs (hbb.trans (hW.mono (by have := hbb.size; omega))) hW.size ((hB.kept hW).cell 0) ((hB.kept hW).cell 1) ⟨hB.lt, hvN⟩ h0
theorem QS.notrow {W W' : World} {B : Nat} {v : Value} {qs : List Wrow} {row : Option Nat} (h : QS W B v qs) (hg : W.grownBy W' row) (hr : ∀ r, row = some r → ∃ o : Obj, W.heap[r]? = some o ∧ o.isCells = false) : QS W' B v qs :=
  ⟨own_notrow h.1 hg hr, fun r hq => own_notrow (h.2.1 r hq) hg hr, h.2.2⟩
/-- what was done, at each time, of a store that is right -/
noncomputable def allD (now : Int) (l : List Ver) : List (List Wri) := if versB now l = true then doneL l now.toNat else []
theorem allD_yes {now : Int} {l : List Ver} (h : versB now l = true) : allD now l = doneL l now.toNat := if_pos h
theorem allD_no {now : Int} {l : List Ver} (h : versB now l = false) : allD now l = [] := if_neg (by rw [h]; simp)
/-- the rows so far, in the loop's box -/
def IQ (W1 : World) (gb : Nat) (pre : List TRa) (W2 : World) : Prop := W1.grownBy W2 (some gb) ∧ ∃ (A' : Option Addr) (c' : Nat), Blk W2 gb 62 #[.slice A' (pre.map (fun x => x.2)).length c'] ∧ QS W2 W1.heap.size (.slice A' (pre.map (fun x => x.2)).length c') (pre.map (fun x => x.2))
theorem own_iq {W1 : World} {gb : Nat} (hgb : gb < W1.heap.size) : OwnFrom W1.heap.size (IQ W1 gb) := by
  intro s W W' row ⟨h1, A', c', h2, h3⟩ hg hr
  refine ⟨⟨hg.os.trans h1.os, hg.tape.trans h1.tape, hg.output.trans h1.output, Nat.le_trans h1.size hg.size, fun k hk hk2 => (hg.block k (Nat.lt_of_lt_of_le hk h1.size) (fun e => by have := (hr k e.symm).1; omega)).trans (h1.block k hk hk2)⟩, A', c', h2.grown hg (fun e => by have := (hr gb e.symm).1; omega), h3.notrow hg (fun r e => (hr r e).2)⟩
def HQ (W1 : World) (gb : Nat) (pre : List TRa) (x : TRa) (W : World) : Prop := IQ W1 gb pre W ∧ ∃ N, W1.heap.size ≤ N ∧ OwnW W N (.slice x.2.1 x.2.2.2.length x.2.2.1) x.2.2.2 ∧ (∀ s ∈ pre.map (fun x : TRa => x.2), ∀ j, (Value.slice s.1 s.2.2.length s.2.1).ownBlock = some j → j < N) ∧ FitsW x.2.2.2 ∧ x.2.2.2.length ≤ 120
theorem own_hq {W1 : World} {gb : Nat} (hgb : gb < W1.heap.size) (pre : List TRa) (x : TRa) : OwnFrom W1.heap.size (fun (_ : Unit) W => HQ W1 gb pre x W) := by
  intro s W W' row ⟨h1, N, h2, h3, h4⟩ hg hr
  exact ⟨own_iq hgb pre W W' row h1 hg hr, N, h2, own_notrow h3 hg (fun r e => (hr r e).2), h4⟩
theorem hq_of {W1 : World} {gb : Nat} (hgb : gb < W1.heap.size) (pre : List TRa) (x : TRa) (W0 W : World) (hi : IQ W1 gb pre W0) (hb : Below W0.heap.size W0 W) (hg : GT x W0 W) : HQ W1 gb pre x W :=
  ⟨own_iq hgb pre W0 W none hi (grown_none hb) (fun r e => by cases e), W0.heap.size, hi.1.size, hg.1, fun s hs j hj => by
    obtain ⟨_, A', c', _, hq⟩ := hi
    exact ((hq.2.1 s hs).lt j hj).2, hg.2⟩
set_option maxRecDepth 100000 in
set_option maxHeartbeats 4000000 in
theorem implAll_in (A : Option Addr) (vs : List Ver) (c : Nat) (now : Int) (w : World) (hn : FitsV vs) (hlen : vs.length ≤ 1048576) (hS : Sl encVer 4 w A vs) :
    CallsIn Fence.wide 5 Try.prog 32 #[.agg #[.int .i64 now, .slice A vs.length c]] w fun e w' => ∃ (qs : List Wrow) (A' : Option Addr) (c' : Nat), e = .returned (.slice A' qs.length c') ∧ QS w' w.heap.size (.slice A' qs.length c') qs ∧ cont qs = allD now vs ∧ Below w.heap.size w w' := by
  have hb0 : Below w.heap.size w (w.alloc (.cells #[.int .i64 now, .slice A vs.length c] 32)) := (Below.refl _ _).alloc (Nat.le_refl _) _
  have hB0 := Blk.new w 32 #[.int .i64 now, .slice A vs.length c]
  have HVO := Lib.hid (implVersOk_any A vs c now _ hn hlen (hS.below hb0))
  refine callsIn_of_wp_marks Try.func32 rfl trivial ?_ rfl
  simp only [Try.ntmps32, List.size_toArray, List.length_cons, List.length_nil, Nat.reduceAdd, Nat.reduceSub, Array.replicate_succ, Array.replicate_zero, List.push_toArray, List.append_toArray, List.nil_append, List.cons_append]
  gi_wp2_with fail
  refine ⟨trivial, callsIn_wide.2 (HVO.out.mono ?_)⟩
  rintro e w1 ⟨rfl, hb1⟩
  have hbw := bthen hb0 hb1
  have hB1 := hB0.kept hb1
  have r0 : w1.cell? ⟨w.heap.size, 0, none⟩ = some (.int .i64 now) := hB1.cell 0
  have r1 : w1.cell? ⟨w.heap.size, 1, none⟩ = some (.slice A vs.length c) := hB1.cell 1
  clear HVO hb1 hB0 hb0
  cases hv : versB now vs
  · have HR := Lib.hid (allD_no hv)
    clear hv
    gi_wp2
    refine rI (results_tmp rfl _ _ _) ?_
    exact ⟨[], none, 0, rfl, ⟨⟨rfl, .inl ⟨rfl, rfl⟩⟩, fun r h => absurd h (by simp), List.Pairwise.nil, fun r h => absurd h (by simp)⟩, by rw [HR.out]; rfl, hbw⟩
  · have HR := Lib.hid (allD_yes hv)
    have HV := Lib.hid hv
    have hn40 := (versB_out hv).1
    have hba := (Below.refl w1.heap.size w1).alloc (Nat.le_refl _) (.cells #[.slice none 0 0] 62)
    have hBb := Blk.new w1 62 #[.slice none 0 0]
    have hlt1 := hB1.lt
    clear hv
    gi_wp2_with fail
    refine ⟨trivial, (times_in _ A vs.length c now _).mono ?_⟩
    rintro e W1 ⟨rfl, rfl⟩
    have hv1 := Blk.new (w1.alloc (.cells #[.slice none 0 0] 62)) 32 #[.int .i64 now, .slice A vs.length c]
    rw [World.size_alloc] at hv1
    have hBb3 := hBb.alloc (.cells #[.int .i64 now, .slice A vs.length c] 32)
    have hba3 := hba.alloc (by simp) (.cells #[.int .i64 now, .slice A vs.length c] 32)
    have HZ := Lib.hid (show ((w1.alloc (.cells #[.slice none 0 0] 62)).alloc (.cells #[.int .i64 now, .slice A vs.length c] 32)).heap.size = w1.heap.size + 2 by simp)
    gi_wp2
    have HBW := Lib.hid (bthen hbw hba3)
    clear r0 r1 hba hBb hba3
    generalize ((w1.alloc (.cells #[.slice none 0 0] 62)).alloc (.cells #[.int .i64 now, .slice A vs.length c] 32)) = W1 at *
    have hgw : w.heap.size < w1.heap.size := hlt1
    generalize w1.heap.size = gb at *
    have hgb : gb < W1.heap.size := by have := HZ.out; omega
    have HO0 := Lib.hid (show QS W1 W1.heap.size (.slice none 0 0) [] from ⟨⟨rfl, .inl ⟨rfl, rfl⟩⟩, fun r h => absurd h (by simp), List.Pairwise.nil, fun r h => absurd h (by simp)⟩)
    obtain ⟨i0, hi, hz0, hz1, hz2⟩ := info_parts infoRowS
    have HI := Lib.hid (⟨hi, hz0, hz1, hz2⟩ : _ ∧ _ ∧ _ ∧ _)
    clear hi hz0 hz1 hz2
    refine rangeG (F := Fence.wide) rfl (by decide) (gf := 109) (lb := #[.pointer (some ⟨gb + 1, 0, none⟩)]) rfl trivial (enters_of Try.func109 (by kernel_rfl) rfl)
      (times_seq 4 (by decide) (gb + 1) gb c A vs now w W1 hn HV.out hS (by omega) hgb HBW.out hv1 (by omega)) KpB.trans (fun _ _ o' hl => KpB.put hl o') (Below.refl _ _) (fun _ => rfl)
      (IQ W1 gb) (own_iq hgb) (HQ W1 gb) (hq_of hgb) (own_hq hgb) ⟨World.grownBy.refl _ _, none, 0, hBb3, HO0.out⟩
      (fun x => { tmps := #[.agg #[.int .i64 now, .slice A vs.length c], .pointer (some ⟨w.heap.size, 0, none⟩), .slice none 0 0, .pointer (some ⟨gb, 0, none⟩), undef, .slice x.2.1 x.2.2.2.length x.2.2.1, .agg #[.int .i64 now, .slice A vs.length c], .bool true, .bool false, .agg #[.int .i64 now, .slice A vs.length c], .func (.func 109) #[] #[.pointer (some ⟨gb + 1, 0, none⟩)], .int .i64 x.1, .slice x.2.1 x.2.2.2.length x.2.2.1, undef, undef, undef, undef, undef], defers := [] }) ?assign ?body ?done
    case assign =>
      intro l x W2 K hK
      gi_wp2
      exact hK
    case body =>
      rintro l pre x W2 ⟨⟨hg, A', c', hBb, hq⟩, N, hN, hx, hlt, hfx⟩ hlp
      obtain ⟨xt, Ax, cx, lx⟩ := x
      simp only at hx hfx
      have hsz := hg.size
      have hpl : (pre.map (fun x : TRa => x.2)).length ≤ 40 := by rw [List.length_map]; omega
      have HPM := Lib.hid (show (pre ++ [((xt, Ax, cx, lx) : TRa)]).map (fun x : TRa => x.2) = pre.map (fun x : TRa => x.2) ++ [((Ax, cx, lx) : Wrow)] by simp)
      have HG := Lib.hid hg
      generalize pre.map (fun x : TRa => x.2) = R at *
      have b0 : W2.cell? ⟨gb, 0, none⟩ = some (.slice A' R.length c') := hBb.cell 0
      have hba := (Below.refl W2.heap.size W2).alloc (Nat.le_refl _) (.cells #[.slice Ax lx.length cx] 41)
      have HQ0 := Lib.hid (hq.below hba)
      have HXS := Lib.hid (slq_one (r := (Ax, cx, lx)) (Blk.new W2 41 #[.slice Ax lx.length cx]))
      have HXO := Lib.hid (show OwnW (W2.alloc (.cells #[.slice Ax lx.length cx] 41)) N (.slice Ax lx.length cx) lx from own_kept hx hba)
      have HBb := Lib.hid (hBb.kept hba)
      have HBA := Lib.hid hba
      have HLT := Lib.hid hlt
      have HFX := Lib.hid hfx
      have hgb2 : gb < W2.heap.size := by omega
      clear hq hba hg hBb hx hlt hfx
      gi_wp2_with (refine wpListIn_append_own _ rfl (.tmp 13) (.tmp 15) 62 rfl W1.heap.size 41 i0 _ 1 24 Try.underlying62 HI.out.1 HI.out.2.1 HI.out.2.2.1 HI.out.2.2.2 rfl (by decide) (.slice A' R.length c') R.length (R.flatMap encWrow) rfl HQ0.out.1 ⟨W2.heap.size, 0, none⟩ 1 1 ([((Ax, cx, lx) : Wrow)].flatMap encWrow) rfl rfl (Sl.cells encWrow_len HXS.out) (encWrow_one _) (by unfold maxLen; omega) (by omega) (by simp; omega) ?_; intro v' w' hown' hgrow _; obtain ⟨R2, hR2, ho⟩ : ∃ R2, R2 = R ++ [((Ax, cx, lx) : Wrow)] ∧ w'.ownsRow W1.heap.size 41 1 v' R2.length (R2.flatMap encWrow) := ⟨_, rfl, ownQ_app hown'⟩; have HR2 := Lib.hid hR2; obtain ⟨A2, c2, rfl, _, _, hS2⟩ := Sl.of_own encWrow_len ho; have HO2 := Lib.hid (HQ0.out.app hgrow ho hR2 HXO.out hN HLT.out HFX.out); have HGR := Lib.hid hgrow; have HB2 := Lib.hid (HBb.out.grown hgrow (fun e => by have := (HQ0.out.1.lt gb e.symm).1; omega)); have z0 := HB2.out.frozen 0; have b1 : w'.cell? ⟨gb, 0, none⟩ = some (.slice A' R.length c') := HB2.out.cell 0; clear hown' hgrow ho hS2 hR2)
      refine ⟨((KeepsOthers.alloc _ _).trans ((KeepsOthers.of_grownBy HGR.out (own_cells HQ0.out.1)).trans (KeepsOthers.setCell _ _ _))).from _, ⟨?_, fun k hk hne => ?_⟩, ⟨?_, A2, c2, ?_, ?_⟩⟩
      · have h1 := HGR.out.size
        rw [World.size_setCell]
        rw [World.size_alloc] at h1
        omega
      · rw [Below.heap_setCell w' ⟨gb, 0, none⟩ _ k (by simpa using hne), HGR.out.block k (by rw [World.size_alloc]; omega) (fun e => by have := (HQ0.out.1.lt k e.symm).1; omega), Below.heap_alloc W2 _ k (by omega)]
      · have h3 : W1.grownBy w' (some gb) := by
          have h2 : W1.grownBy (W2.alloc (.cells #[.slice Ax lx.length cx] 41)) (some gb) := gtrans HG.out (gbelow HBA.out)
          have h4 := HGR.out
          exact ⟨h4.os.trans h2.os, h4.tape.trans h2.tape, h4.output.trans h2.output, Nat.le_trans h2.size h4.size, fun k hk hne => (h4.block k (Nat.lt_of_lt_of_le hk h2.size) (fun e => by have := (HQ0.out.1.lt k e.symm).1; omega)).trans (h2.block k hk hne)⟩
        exact grown_setS h3 rfl _
      · rw [HPM.out, ← HR2.out]
        exact HB2.out.set_ 0 _
      · rw [HPM.out, ← HR2.out]
        exact ⟨ownsRow_setCell_other HO2.out.1 (fun e => by have := (HO2.out.1.lt gb e).1; omega) _, fun r hr => ownsRow_setCell_other (HO2.out.2.1 r hr) (fun e => by have := ((HO2.out.2.1 r hr).lt gb e).1; omega) _, HO2.out.2.2⟩
    case done =>
      rintro D xs W2 hDl hD ⟨hg, A', c', hBb, hq⟩ hK
      have b0 : W2.cell? ⟨gb, 0, none⟩ = some (.slice A' (xs.map (fun x : TRa => x.2)).length c') := hBb.cell 0
      have HBW2 := Lib.hid (HBW.out.grown hg (by omega) (fun j hj => by injection hj; omega))
      have HQF := Lib.hid hq
      have HK := Lib.hid hK
      have HCT := Lib.hid (show cont (xs.map (fun x : TRa => x.2)) = doneL vs now.toNat by unfold cont; rw [List.map_map]; exact hD)
      have hgs := hg.size
      have hws := HBW.out.size
      generalize xs.map (fun x : TRa => x.2) = R at *
      clear hg hBb hq hK hD
      gi_wp2
      refine leaves_one HK.out (fun o => ⟨results_tmp rfl _ _ _, ?_⟩)
      refine ⟨R, A', c', rfl, ?_, by rw [HCT.out, HR.out], HBW2.out.trans (below_put W2 o (by omega))⟩
      exact (HQF.out.notrow (grownBy_putObj' W2 D o) (fun r e => by cases e; exact ⟨_, HK.out, rfl⟩)).le (by omega)
theorem implAll_any (A : Option Addr) (vs : List Ver) (c : Nat) (now : Int) (w : World) (hn : FitsV vs) (hlen : vs.length ≤ 1048576) (hS : Sl encVer 4 w A vs) :
    Calls Try.prog 32 #[.agg #[.int .i64 now, .slice A vs.length c]] w fun e w' => ∃ (qs : List Wrow) (A' : Option Addr) (c' : Nat), e = .returned (.slice A' qs.length c') ∧ QS w' w.heap.size (.slice A' qs.length c') qs ∧ cont qs = allD now vs ∧ Below w.heap.size w w' :=
  callsIn_wide.1 (implAll_in A vs c now w hn hlen hS)
end Go.Proofs.Ytpjkcmmmpgncmaa
namespace Go.Proofs.Ytpjkcmmmpgncmaa
open Go.RowKit
set_option maxRecDepth 100000 in
set_option maxHeartbeats 3000000 in
theorem specAllF_any (A : Option Addr) (l : List Ver) (c : Nat) (now : Int) (w : World) (hf : FitsV l) (hl : l.length ≤ 1048576) (hS : Sl encVer 4 w A l) :
    Calls Try.prog 36 #[.agg #[.int .i64 now, .slice A l.length c]] w fun e w' => ∃ (qs : List Wrow) (A' : Option Addr) (c' : Nat), e = .returned (.slice A' qs.length c') ∧ QS w' w.heap.size (.slice A' qs.length c') qs ∧ cont qs = allD now l ∧ Below w.heap.size w w' := by
  obtain ⟨i0, hi, hz0, hz1, hz2⟩ := info_parts infoRowS
  have HI := Lib.hid (⟨hi, hz0, hz1, hz2⟩ : _ ∧ _ ∧ _ ∧ _)
  clear hi hz0 hz1 hz2
  have hb0 := ((Below.refl w.heap.size w).alloc (Nat.le_refl _) (.cells #[.int .i64 now, .slice A l.length c] 32)).alloc (by simp) (.cells #[] 41)
  have hB0 := (Blk.new w 32 #[.int .i64 now, .slice A l.length c]).alloc (.cells #[] 41)
  have hBe := Blk.new (w.alloc (.cells #[.int .i64 now, .slice A l.length c] 32)) 41 #[]
  rw [World.size_alloc] at hBe
  have ho := own_of_blk (base := w.heap.size + 1) (n := 0) (k := 1) (xs := []) hBe (by omega) (Nat.zero_le _) rfl rfl
  have HST := Lib.hid (show Blk ((w.alloc (.cells #[.int .i64 now, .slice A l.length c] 32)).alloc (.cells #[] 41)) w.heap.size 32 #[.int .i64 now, .slice A l.length c] ∧ QS ((w.alloc (.cells #[.int .i64 now, .slice A l.length c] 32)).alloc (.cells #[] 41)) (w.heap.size + 1) (.slice (some ⟨w.heap.size + 1, 0, none⟩) 0 0) [] ∧ Below w.heap.size w ((w.alloc (.cells #[.int .i64 now, .slice A l.length c] 32)).alloc (.cells #[] 41)) from ⟨hB0, ⟨ho, fun r h => absurd h (by simp), List.Pairwise.nil, fun r h => absurd h (by simp)⟩, hb0⟩)
  have HF := Lib.hid hf
  have HRA := Lib.hid hS
  clear hb0 hB0 hBe ho hf hS
  go_enter Try.func36, Try.ntmps36
  go_wp2
  generalize (w.alloc (.cells #[.int .i64 now, .slice A l.length c] 32)).alloc (.cells #[] 41) = w0 at *
  go_loopw [3, 4] (fun v i wr => ∃ (k : Nat) (A5 : Option Addr) (qs : List Wrow) (c5 : Nat), v = .slice A5 qs.length c5 ∧ i = .int .i64 ((k : Int) + 1) ∧ qs.length = k ∧ k ≤ 40 ∧ ((k : Int) ≤ now ∨ k = 0) ∧ Hid (cont qs = doneL l k ∧ (0 < k → versB now l = true)) ∧ Hid (Blk wr w.heap.size 32 #[.int .i64 now, .slice A l.length c] ∧ QS wr (w.heap.size + 1) (.slice A5 qs.length c5) qs ∧ Below w.heap.size w wr)) (fun _ i _ => (now + 1 - intOf i).toNat)
  case atStart => exact ⟨0, _, [], 0, rfl, rfl, rfl, by omega, .inr rfl, Lib.hid ⟨rfl, fun h => absurd h (by omega)⟩, HST.out⟩
  case round =>
    clear HST
    obtain ⟨k, A5, qs, c5, rfl, rfl, hqk, hk40, hkn, HD, HA⟩ := hrel
    have HQK := Lib.hid hqk
    have hq40 : qs.length ≤ 40 := by omega
    clear hqk
    have r0 : wr.cell? ⟨w.heap.size, 0, none⟩ = some (.int .i64 now) := HA.out.1.cell 0
    have r1 : wr.cell? ⟨w.heap.size, 1, none⟩ = some (.slice A l.length c) := HA.out.1.cell 1
    by_cases hle : (k : Int) + 1 ≤ now
    · have d0 : decide ((k : Int) + 1 ≤ now) = true := decide_eq_true hle
      have HVO := Lib.hid (specVersOk_any A l c now wr HF.out (by omega) (HRA.out.below HA.out.2.2))
      go_wp2_with fail
      refine HVO.out.mono ?_
      rintro e w1 ⟨rfl, hb1⟩
      have HA1 := Lib.hid (⟨HA.out.1.kept hb1, HA.out.2.1.below hb1, bthen HA.out.2.2 hb1⟩ : _ ∧ _ ∧ _)
      clear HVO HA hb1 r0 r1
      cases hv : versB now l
      · have HE := Lib.hid (show cont qs = allD now l by
          have h0 : k = 0 := by
            rcases Nat.eq_zero_or_pos k with h | h
            · exact h
            · have := HD.out.2 h; rw [hv] at this; cases this
          rw [HD.out.1, h0, allD_no hv]; rfl)
        clear hv
        go_wp2
        go_ret
        exact ⟨qs, A5, c5, rfl, HA1.out.2.1.le (by omega), HE.out, HA1.out.2.2⟩
      · have HV := Lib.hid hv
        have hl60 := (versB_out hv).1
        clear hv
        have r0 : w1.cell? ⟨w.heap.size, 0, none⟩ = some (.int .i64 now) := HA1.out.1.cell 0
        have r1 : w1.cell? ⟨w.heap.size, 1, none⟩ = some (.slice A l.length c) := HA1.out.1.cell 1
        have HAT := Lib.hid (l8AtF_any A l c now ((k : Int) + 1) w1 HF.out (by omega) (HRA.out.below HA1.out.2.2))
        have HDS := Lib.hid (doneL_succ l k)
        have HLT := Lib.hid (show ∀ s ∈ qs, ∀ j, (Value.slice s.1 s.2.2.length s.2.1).ownBlock = some j → j < w1.heap.size from fun s hs j hj => ((HA1.out.2.1.2.1 s hs).lt j hj).2)
        have hww := HA1.out.1.lt
        go_wp2_with fail
        refine HAT.out.mono ?_
        rintro e w2 ⟨vr, rfl, how, hfw, hwl, hb2⟩
        generalize l8L l ((k : Int) + 1) = ws at *
        obtain ⟨Ar, cr, rfl, _, _, hSr⟩ := how.sl
        have hbm := (Below.refl w2.heap.size w2).alloc (Nat.le_refl _) (.cells #[.slice Ar ws.length cr] 41)
        have hb23 := bthen hb2 hbm
        have HA3 := Lib.hid (⟨HA1.out.1.kept hb23, HA1.out.2.1.below hb23, bthen HA1.out.2.2 hb23⟩ : _ ∧ _ ∧ _)
        have HOR := Lib.hid (how.below hbm)
        have HXS := Lib.hid (slq_one (r := (Ar, cr, ws)) (Blk.new w2 41 #[.slice Ar ws.length cr]))
        have HFW := Lib.hid (⟨hfw, by omega⟩ : FitsW ws ∧ ws.length ≤ 120)
        have H63 := Lib.hid (show qs.length + [((Ar, cr, ws) : Wrow)].length ≤ maxLen by unfold maxLen; simp; omega)
        have HBY := Lib.hid (show (qs.length + [((Ar, cr, ws) : Wrow)].length) * 24 ≤ 140737488355328 by simp; omega)
        have HBS := Lib.hid (show w.heap.size + 1 ≤ (w2.alloc (.cells #[.slice Ar ws.length cr] 41)).heap.size by have := hb2.size; simp; omega)
        clear HAT HA1 how hfw hb2 hbm hb23 hSr r0 r1
        go_wp2_with (at_builtin; refine wpList_append_slM (enc := encWrow) rfl (.tmp 16) (.tmp 20) 62 rfl (w.heap.size + 1) 41 i0 _ 1 24 Try.underlying62 HI.out.1 HI.out.2.1 HI.out.2.2.1 HI.out.2.2.2 rfl (by decide) (.slice A5 qs.length c5) qs.length (qs.flatMap encWrow) rfl HA3.out.2.1.1 encWrow_len (some ⟨w2.heap.size, 0, none⟩) [((Ar, cr, ws) : Wrow)] 1 1 rfl (by first | rfl | simp [Act.eval]) HXS.out (encWrow_one _) H63.out HBY.out HBS.out ?_; intro v' w3 hown hgr _; obtain ⟨q2, hq2, ho⟩ : ∃ q2, q2 = qs ++ [((Ar, cr, ws) : Wrow)] ∧ w3.ownsRow (w.heap.size + 1) 41 1 v' q2.length (q2.flatMap encWrow) := ⟨_, rfl, ownQ_app hown⟩; have HQ := Lib.hid (HA3.out.2.1.app hgr ho hq2 HOR.out (by omega) HLT.out HFW.out); have HL2 := Lib.hid (show q2.length = k + 1 from (by rw [hq2, List.length_append, HQK.out]; rfl)); have HD2 := Lib.hid (show cont q2 = doneL l (k + 1) ∧ (0 < k + 1 → versB now l = true) from ⟨(by rw [hq2, HDS.out, ← HD.out.1]; simp [cont]), fun _ => HV.out⟩); obtain ⟨A6, c6, rfl, _, _, hS6⟩ := Sl.of_own encWrow_len ho; have HB3 := Lib.hid (HA3.out.1.grown hgr (fun e => by have := (HA3.out.2.1.1.lt _ e.symm).1; omega)); have HBW := Lib.hid (below_own HA3.out.2.2 hgr HA3.out.2.2.size (fun j hj => by have := (HA3.out.2.1.1.lt j hj).1; omega)); clear hown hgr ho hq2 hS6)
        go_roundw
        case rel => exact ⟨k + 1, A6, q2, c6, rfl, by go_num, HL2.out, by omega, .inl (by omega), HD2, HB3.out, HQ.out, HBW.out⟩
        case measure => simp [intOf]; omega
    · have d0 : decide ((k : Int) + 1 ≤ now) = false := decide_eq_false hle
      have HE := Lib.hid (show cont qs = allD now l by
        rw [HD.out.1]
        cases hv : versB now l
        · have h0 : k = 0 := by
            rcases Nat.eq_zero_or_pos k with h | h
            · exact h
            · have := HD.out.2 h; rw [hv] at this; cases this
          rw [h0, allD_no hv]; rfl
        · have := (versB_out hv).1.1
          rw [allD_yes hv, show k = now.toNat by omega])
      go_wp2
      go_ret
      exact ⟨qs, A5, c5, rfl, HA.out.2.1.le (by omega), HE.out, HA.out.2.2⟩
end Go.Proofs.Ytpjkcmmmpgncmaa
