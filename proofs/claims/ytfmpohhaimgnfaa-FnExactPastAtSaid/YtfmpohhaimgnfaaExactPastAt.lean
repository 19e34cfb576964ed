/- FnExactPastAt: for every store and every time the program's PastAt returns what the reference's returns, in memory of its own, and leaves its arguments as they were. No condition. -/
import Derived.Test.YtfmpohhaimgnfaaSPAt
import Derived.Test.YtfmpohhaimgnfaaWrHd
import Derived.Test.YtfmpohhaimgnfaaVrEq
import Derived.Test.YtfmpohhaimgnfaaOpenV
import Derived.Deep.RegionWith
namespace Go.Proofs.Ytfmpohhaimgnfaa
open Go.RowKit Go.ChangeShapes Go.WideShapes Go.ChangeAt Go.Deep
theorem pastL_len (now : Int) (l : List Ver) (t : Int) : (pastL now l t).length ≤ 2 * l.length := by
  have h1 : ∀ (m : List Ver), (m.flatMap (one8 l t)).length ≤ 2 * m.length := by
    intro m
    induction m with
    | nil => simp
    | cons x m ih =>
      rw [List.flatMap_cons, List.length_append, List.length_cons]
      have : (one8 l t x).length ≤ 2 := by unfold one8; split <;> split <;> simp
      omega
  unfold pastL
  split
  · exact h1 l
  · exact Nat.zero_le _
theorem OwnV.readsA {w : World} {B c : Nat} {A : Option Addr} {l : List Ver} (h : OwnV w B (.slice A l.length c) l) : Sl encVer 4 w A l := by
  obtain ⟨a1, a2, a3, _, _, a4⟩ := h.sl
  injection a3 with b1 b2 b3
  subst b1; exact a4
theorem own_neA {w : World} {B g k n : Nat} {e T : TypeId} {v : Value} {xs : List Value} {cs : Array Value} (h : w.ownsRow B e k v n xs) (hb : Blk w g T cs) (hT : T ≠ e) : some g ≠ v.ownBlock := by
  rcases h.2 with ⟨rfl, _⟩ | ⟨g', cap, cur, rfl, _, hg, _⟩
  · simp [Value.ownBlock]
  · intro e
    simp [Value.ownBlock] at e
    subst e
    unfold Blk at hb
    rw [hb] at hg
    simp at hg
    exact hT hg.2
theorem own_farA {w w' : World} {B k : Nat} {e : TypeId} {v v2 : Value} {n : Nat} {xs : List Value} (h : w.ownsRow B e k v n xs) (hg : w.grownBy w' v2.ownBlock) (hd : ∀ j, v.ownBlock = some j → v2.ownBlock = some j → False) : w'.ownsRow B e k v n xs := by
  refine h.kept hg ?_
  cases hv : v.ownBlock with
  | none => exact .inl rfl
  | some j => exact .inr (fun e => hd j hv e.symm)
/-- what stands while the law runs: the argument's box, the reference's answer, the copy handed in, the program's answer -/
def PA (w : World) (n8 b4 b6 b9 : Nat) (now : Int) (A AS AX AG : Option Addr) (l : List Ver) (P : List Wri) (c cS cX cG : Nat) (W : World) : Prop :=
  Below w.heap.size w W ∧ Blk W w.heap.size 66 #[.int .i64 now, .slice A l.length c] ∧ OwnW W b4 (.slice AS P.length cS) P ∧
  (Blk W n8 25 #[.int .i64 now, .slice AX l.length cX] ∧ OwnV W b6 (.slice AX l.length cX) l) ∧ OwnW W b9 (.slice AG P.length cG) P ∧ b9 ≤ W.heap.size
theorem PA.below {w : World} {n8 b4 b6 b9 : Nat} {now : Int} {A AS AX AG : Option Addr} {l : List Ver} {P : List Wri} {c cS cX cG : Nat} {W W' : World} (h : PA w n8 b4 b6 b9 now A AS AX AG l P c cS cX cG W) (hb : Below W.heap.size W W') : PA w n8 b4 b6 b9 now A AS AX AG l P c cS cX cG W' := by
  obtain ⟨h1, h2, h3, ⟨h5, h6⟩, h7, h8⟩ := h
  exact ⟨bthen h1 hb, h2.kept hb, own_kept h3 hb, ⟨h5.kept hb, own_kept h6 hb⟩, own_kept h7 hb, Nat.le_trans h8 hb.size⟩
/-- what stands when the copy handed in is marked -/
def PB (w : World) (b4 b9 : Nat) (now : Int) (A AS AG : Option Addr) (l : List Ver) (P : List Wri) (c cS cG : Nat) (W : World) : Prop :=
  Below w.heap.size w W ∧ Blk W w.heap.size 66 #[.int .i64 now, .slice A l.length c] ∧ OwnW W b4 (.slice AS P.length cS) P ∧ OwnW W b9 (.slice AG P.length cG) P ∧ b9 ≤ W.heap.size
theorem PB.below {w : World} {b4 b9 : Nat} {now : Int} {A AS AG : Option Addr} {l : List Ver} {P : List Wri} {c cS cG : Nat} {W W' : World} (h : PB w b4 b9 now A AS AG l P c cS cG W) (hb : Below W.heap.size W W') : PB w b4 b9 now A AS AG l P c cS cG W' := by
  obtain ⟨h1, h2, h3, h7, h8⟩ := h
  exact ⟨bthen h1 hb, h2.kept hb, own_kept h3 hb, own_kept h7 hb, Nat.le_trans h8 hb.size⟩
theorem PA.markX {w : World} {n8 b4 b6 b9 : Nat} {now : Int} {A AS AX AG : Option Addr} {l : List Ver} {P : List Wri} {c cS cX cG : Nat} {W W' : World} (h : PA w n8 b4 b6 b9 now A AS AX AG l P c cS cX cG W)
    (hg : W.grownBy W' (Value.slice AX l.length cX).ownBlock) (hw : w.heap.size ≤ b6) (hS : ∀ j, (Value.slice AS P.length cS).ownBlock = some j → j < b6) (hX : ∀ j, (Value.slice AX l.length cX).ownBlock = some j → j < b9) :
    PB w b4 b9 now A AS AG l P c cS cG W' := by
  obtain ⟨h1, h2, h3, ⟨_, h6⟩, h7, h8⟩ := h
  refine ⟨below_own h1 hg h1.size (fun j hj => by have := (h6.lt j hj).1; omega), h2.grown hg (own_neA h6 h2 (by decide)), own_farA h3 hg (fun j e1 e2 => ?_), own_farA h7 hg (fun j e1 e2 => ?_), Nat.le_trans h8 hg.size⟩
  · have := hS j e1; have := (h6.lt j e2).1; omega
  · have := hX j e2; have := (h7.lt j e1).1; omega
/-- what stands when the program's answer is marked -/
def PC (w : World) (b4 : Nat) (now : Int) (A AS AG : Option Addr) (l : List Ver) (P M : List Wri) (c cS : Nat) (W : World) : Prop :=
  Below w.heap.size w W ∧ Blk W w.heap.size 66 #[.int .i64 now, .slice A l.length c] ∧ OwnW W b4 (.slice AS P.length cS) P ∧ Sl encWri 3 W AG M
theorem PC.below {w : World} {b4 : Nat} {now : Int} {A AS AG : Option Addr} {l : List Ver} {P M : List Wri} {c cS : Nat} {W W' : World} (h : PC w b4 now A AS AG l P M c cS W) (hb : Below W.heap.size W W') : PC w b4 now A AS AG l P M c cS W' := by
  obtain ⟨h1, h2, h3, h7⟩ := h
  exact ⟨bthen h1 hb, h2.kept hb, own_kept h3 hb, h7.below hb⟩
theorem PB.markG {w : World} {b4 b9 : Nat} {now : Int} {A AS AG : Option Addr} {l : List Ver} {P M : List Wri} {c cS cG : Nat} {W W' : World} (h : PB w b4 b9 now A AS AG l P c cS cG W)
    (hg : W.grownBy W' (Value.slice AG P.length cG).ownBlock) (hM : Sl encWri 3 W' AG M) (hw : w.heap.size ≤ b9) (hS : ∀ j, (Value.slice AS P.length cS).ownBlock = some j → j < b9) : PC w b4 now A AS AG l P M c cS W' := by
  obtain ⟨h1, h2, h3, h7, _⟩ := h
  refine ⟨below_own h1 hg h1.size (fun j hj => by have := (h7.lt j hj).1; omega), h2.grown hg (own_neA h7 h2 (by decide)), own_farA h3 hg (fun j e1 e2 => ?_), hM⟩
  have := hS j e1; have := (h7.lt j e2).1; omega
set_option maxRecDepth 100000 in
set_option maxHeartbeats 4000000 in
theorem lawPastAt (A : Option Addr) (l : List Ver) (c : Nat) (now t : Int) (w : World) (hf : FitsV l) (hR : Sl encVer 4 w A l) :
    Calls Try.prog 13 #[.agg #[.int .i64 now, .slice A l.length c], .int .i64 t] w fun e w' => e = .returned (.bool true) ∧ Below w.heap.size w w' := by
  have hb0 := (Below.refl w.heap.size w).alloc (Nat.le_refl _) (.cells #[.int .i64 now, .slice A l.length c] 66)
  have hB0 := Blk.new w 66 #[.int .i64 now, .slice A l.length c]
  have r0 : (w.alloc (.cells #[.int .i64 now, .slice A l.length c] 66)).cell? ⟨w.heap.size, 0, none⟩ = some (.int .i64 now) := hB0.cell 0
  have r1 : (w.alloc (.cells #[.int .i64 now, .slice A l.length c] 66)).cell? ⟨w.heap.size, 1, none⟩ = some (.slice A l.length c) := hB0.cell 1
  have HSZ := Lib.hid (szVers_any A l c now 1048576 (w.alloc (.cells #[.int .i64 now, .slice A l.length c] 66)) hf (hR.below hb0) (by omega) (by omega))
  go_enter Try.func13, Try.ntmps13
  go_wp2_with fail
  generalize w.alloc (.cells #[.int .i64 now, .slice A l.length c] 66) = w0 at *
  refine HSZ.out.mono ?_
  rintro e w2 ⟨rfl, hb1⟩
  clear HSZ
  by_cases hs1 : ¬ ((l.length + vsz l : Nat) : Int) ≤ 1048576
  · have HZ := Lib.hid (sz_no (t := l.length + vsz l) (a := 1048576) (by omega))
    rw [HZ.out]
    go_wp2
    go_ret
    exact ⟨rfl, bthen hb0 hb1⟩
  have hs1 := Decidable.not_not.1 hs1
  have HZ := Lib.hid (sz_yes hs1)
  rw [HZ.out]
  generalize hle : (1048576 : Int) - ((l.length + vsz l : Nat) : Int) = left at *
  have hl0 : 0 ≤ left := by omega
  have hl2 : l.length ≤ 1048576 := by omega
  have hd1 : decide (left < 0) = false := decide_eq_false (by omega)
  have hB2 := hB0.kept hb1
  have hb02 := bthen hb0 hb1
  clear hB0 hb0 hb1 HZ r0 r1 hle hs1
  have HPL := Lib.hid (pastL_len now l t)
  generalize hdv : pastL now l t = P at *
  have HR := Lib.hid hdv
  clear hdv hl0
  have hPl : P.length ≤ 2097152 := by have := HPL.out; omega
  have HRA := Lib.hid hR
  clear hR HPL
  have r0 : w2.cell? ⟨w.heap.size, 0, none⟩ = some (.int .i64 now) := hB2.cell 0
  have r1 : w2.cell? ⟨w.heap.size, 1, none⟩ = some (.slice A l.length c) := hB2.cell 1
  go_wp2_with fail
  refine (toVers_any A l c now w2 hl2 (HRA.out.below hb02)).mono ?_
  rintro e w4 ⟨va, rfl, hoa, hb4⟩
  obtain ⟨Aa, ca, rfl, _, _, hSa⟩ := hoa.sl
  have hb04 := bthen hb02 hb4
  have hB4 := hB2.kept hb4
  have hz3 := hB4.lt
  have HC := Lib.hid (specPastAt_any Aa l ca now t w4 hf hl2 hSa)
  rw [HR.out] at HC
  clear hoa hb02 hB2 r0 r1 hSa hb4
  go_wp2_with fail
  refine HC.out.mono ?_
  rintro e w6 ⟨v, rfl, hown, hb5⟩
  obtain ⟨AS, cS, rfl, _, _, hSS⟩ := hown.sl
  have hb06 := bthen hb04 hb5
  have hB6 := hB4.kept hb5
  have hoS := hown
  have hz5 := hb5.size
  have hz4 := hb04.size
  have r0 : w6.cell? ⟨w.heap.size, 0, none⟩ = some (.int .i64 now) := hB6.cell 0
  have r1 : w6.cell? ⟨w.heap.size, 1, none⟩ = some (.slice A l.length c) := hB6.cell 1
  have HC2 := Lib.hid (toVers_any A l c now w6 hl2 (HRA.out.below hb06))
  clear hSS hown hb04 hB4 hb5 HC
  go_wp2_with fail
  have HLS := Lib.hid (show ∀ j, (Value.slice AS P.length cS).ownBlock = some j → j < w6.heap.size from fun j hj => (World.ownsRow.lt hoS j hj).2)
  refine HC2.out.mono ?_
  rintro e w7 ⟨vx, rfl, hox, hb7⟩
  obtain ⟨AX, cX, rfl, _, _, hSX⟩ := hox.sl
  have hz7 := hb7.size
  have hb8 := (Below.refl w7.heap.size w7).alloc (Nat.le_refl _) (.cells #[.int .i64 now, .slice AX l.length cX] 25)
  have hb68 := bthen hb7 hb8
  have hb08 := bthen hb06 hb68
  have hB8 := hB6.kept hb68
  have hoS8 : OwnW _ w4.heap.size (.slice AS P.length cS) P := own_kept hoS hb68
  have hX8 := Blk.new w7 25 #[.int .i64 now, .slice AX l.length cX]
  have hoX8 : OwnV (w7.alloc (.cells #[.int .i64 now, .slice AX l.length cX] 25)) w6.heap.size (.slice AX l.length cX) l := own_kept hox hb8
  have hz8 : (w7.alloc (.cells #[.int .i64 now, .slice AX l.length cX] 25)).heap.size = w7.heap.size + 1 := by simp
  have r0 : (w7.alloc (.cells #[.int .i64 now, .slice AX l.length cX] 25)).cell? ⟨w7.heap.size, 0, none⟩ = some (.int .i64 now) := hX8.cell 0
  have r1 : (w7.alloc (.cells #[.int .i64 now, .slice AX l.length cX] 25)).cell? ⟨w7.heap.size, 1, none⟩ = some (.slice AX l.length cX) := hX8.cell 1
  have HC4 := Lib.hid (implPastAt_any AX l cX now t (w7.alloc (.cells #[.int .i64 now, .slice AX l.length cX] 25)) hf hl2 (hSX.below hb8))
  rw [HR.out] at HC4
  clear hSX hox hb06 hB6 hoS hb7 hb8 hb68 HC2
  go_wp2_with fail
  generalize w7.alloc (.cells #[.int .i64 now, .slice AX l.length cX] 25) = w9 at *
  have HLX := Lib.hid (show ∀ j, (Value.slice AX l.length cX).ownBlock = some j → j < w9.heap.size from fun j hj => (hoX8.lt j hj).2)
  refine HC4.out.mono ?_
  rintro e w11 ⟨vg, rfl, hog, hb10⟩
  obtain ⟨AG, cG, rfl, _, _, hSG⟩ := hog.sl
  have HVD := Lib.hid (show PA w w7.heap.size w4.heap.size w6.heap.size w9.heap.size now A AS AX AG l P c cS cX cG w11 from
    ⟨bthen hb08 hb10, hB8.kept hb10, own_kept hoS8 hb10, ⟨hX8.kept hb10, own_kept hoX8 hb10⟩, hog, hb10.size⟩)
  have hz10 := hb10.size
  clear hb08 hB8 hoS8 hX8 hoX8 hog hSG hb10 HC4 r0 r1
  have HN := Lib.hid (show w.heap.size < w4.heap.size ∧ w4.heap.size ≤ w6.heap.size ∧ w6.heap.size ≤ w7.heap.size ∧ w9.heap.size = w7.heap.size + 1 ∧ w9.heap.size ≤ w11.heap.size from ⟨hz3, hz5, hz7, hz8, hz10⟩)
  have HE := Lib.hid (eqWriteS_any AG AS P P cG cS w11 (by unfold maxLen; omega) (by unfold maxLen; omega) HVD.out.2.2.2.2.1.reads HVD.out.2.2.1.reads)
  go_wp2_with fail
  refine HE.out.mono ?_
  rintro e w12 ⟨rfl, hb12⟩
  rw [eqB_yes rfl]
  have HVD2 := Lib.hid (HVD.out.below hb12)
  clear HE HVD hb12 hz10
  have r0 : w12.cell? ⟨w7.heap.size, 0, none⟩ = some (.int .i64 now) := HVD2.out.2.2.2.1.1.cell 0
  have r1 : w12.cell? ⟨w7.heap.size, 1, none⟩ = some (.slice AX l.length cX) := HVD2.out.2.2.2.1.1.cell 1
  have r2 : w12.cell? ⟨w.heap.size, 0, none⟩ = some (.int .i64 now) := HVD2.out.2.1.cell 0
  have r3 : w12.cell? ⟨w.heap.size, 1, none⟩ = some (.slice A l.length c) := HVD2.out.2.1.cell 1
  have hbd := (Below.refl w12.heap.size w12).drew
  have HVD3 := Lib.hid (HVD2.out.below hbd)
  have HC := Lib.hid (toVers_any A l c now w12.drew hl2 (HRA.out.below HVD3.out.1))
  clear hbd
  go_wp2_with fail
  go_region_with (first
    | (go_at_call 40; refine HE.out.mono ?_; rintro e w16 ⟨rfl, hb14⟩; have HVD7 := Lib.hid (HVD4.out.below hb14); clear hb14)
    | (go_at_call 45; refine HC.out.mono ?_; rintro e w13 ⟨vq, rfl, hoq, hb13⟩; obtain ⟨Aq, cq, rfl, _, _, hSq⟩ := hoq.sl; have HVD4 := Lib.hid (HVD3.out.below hb13); have r5 : w13.cell? ⟨w7.heap.size, 0, none⟩ = some (.int .i64 now) := HVD4.out.2.2.2.1.1.cell 0; have r6 : w13.cell? ⟨w7.heap.size, 1, none⟩ = some (.slice AX l.length cX) := HVD4.out.2.2.2.1.1.cell 1; have HE := Lib.hid (eqVers_same AX Aq l cX cq now w13 (Nat.le_trans hl2 (by unfold maxLen; omega)) HVD4.out.2.2.2.1.2.readsA hSq); clear hoq hSq hb13))
  all_goals
    clear HVD2 HVD3 HVD4 HC HE r0 r1 r2 r3 r5 r6
    have r0 : w16.cell? ⟨w7.heap.size, 0, none⟩ = some (.int .i64 now) := HVD7.out.2.2.2.1.1.cell 0
    have r1 : w16.cell? ⟨w7.heap.size, 1, none⟩ = some (.slice AX l.length cX) := HVD7.out.2.2.2.1.1.cell 1
    have HMX := Lib.hid (markVers_any w6.heap.size AX cX l now 1 w16 (by omega) (by omega) (by have := HVD7.out.2.2.2.1.1.lt; have := HN.out; omega) HVD7.out.2.2.2.1.2)
    go_wp2_with fail
    refine HMX.out.mono ?_
    rintro e w17 ⟨rfl, _, hg17⟩
    have HVF2 := Lib.hid (HVD7.out.markX hg17 (by have := HN.out; omega) HLS.out HLX.out)
    clear hg17 HMX HVD7 r0 r1
    generalize hkk : 1 + 4 * l.length = kk2 at *
    have hd3 : decide (((kk2 : Nat) : Int) < 0) = false := decide_eq_false (by omega)
    have HE := Lib.hid (eqWriteS_any AG AS P P cG cS w17 (by unfold maxLen; omega) (by unfold maxLen; omega) HVF2.out.2.2.2.1.reads HVF2.out.2.2.1.reads)
    clear hkk
    go_wp2_with fail
    refine HE.out.mono ?_
    rintro e w19 ⟨rfl, hb19⟩
    rw [eqB_yes rfl]
    have HVF3 := Lib.hid (HVF2.out.below hb19)
    clear HE HVF2 hb19
    have HMG := Lib.hid (markWH_any w9.heap.size AG cG P 1 w19 (by omega) (by omega) HVF3.out.2.2.2.2 HVF3.out.2.2.2.1)
    go_wp2_with fail
    refine HMG.out.mono ?_
    rintro e w20 ⟨rfl, _, hM, hg20⟩
    have HVE := Lib.hid (HVF3.out.markG hg20 hM (by have := HN.out; omega) (fun j hj => by have := HLS.out j hj; have := HN.out; omega))
    clear hM hg20 HMG HVF3
    have HH := Lib.hid (fun W (hW : Sl encWri 3 W AG (mkW 1 P.length)) => heldW_any AG cG P.length 1 W (by omega) (by omega) hW)
    generalize hmm : 1 + 3 * P.length = mm at *
    have hd4 : decide (((mm : Nat) : Int) < 0) = false := decide_eq_false (by omega)
    clear hmm
    go_wp2_with fail
    refine (HH.out w20 HVE.out.2.2.2).mono ?_
    rintro e w21 ⟨rfl, hb21⟩
    have HVE2 := Lib.hid (HVE.out.below hb21)
    clear HVE hb21
    have r2 : w21.cell? ⟨w.heap.size, 0, none⟩ = some (.int .i64 now) := HVE2.out.2.1.cell 0
    have r3 : w21.cell? ⟨w.heap.size, 1, none⟩ = some (.slice A l.length c) := HVE2.out.2.1.cell 1
    have HC5 := Lib.hid (toVers_any A l c now w21 hl2 (HRA.out.below HVE2.out.1))
    go_wp2_with fail
    refine HC5.out.mono ?_
    rintro e w23 ⟨va, rfl, hoa, hb22⟩
    obtain ⟨Aa2, ca2, rfl, _, _, hSa⟩ := hoa.sl
    have HVE4 := Lib.hid (HVE2.out.below hb22)
    have HC7 := Lib.hid (implPastAt_any Aa2 l ca2 now t w23 hf hl2 hSa)
    rw [HR.out] at HC7
    clear HC5 HVE2 hb22 hoa hSa r2 r3
    go_wp2_with fail
    refine HC7.out.mono ?_
    rintro e w25 ⟨vh, rfl, hoh, hb24⟩
    obtain ⟨AH, cH, rfl, _, _, hSH⟩ := hoh.sl
    have HVE5 := Lib.hid (HVE4.out.below hb24)
    have HE2 := Lib.hid (eqWriteS_any AH AS P P cH cS w25 (by unfold maxLen; omega) (by unfold maxLen; omega) hSH HVE5.out.2.2.1.reads)
    clear HC7 HVE4 hb24 hoh hSH
    go_wp2_with fail
    refine HE2.out.mono ?_
    rintro e w26 ⟨rfl, hb26⟩
    rw [eqB_yes rfl]
    have HVE6 := Lib.hid (HVE5.out.below hb26)
    clear HE2 HVE5 hb26
    go_wp2_with fail
    refine (HH.out w26 HVE6.out.2.2.2).mono ?_
    rintro e w27 ⟨rfl, hb27⟩
    have hend := bthen HVE6.out.1 hb27
    go_wp2
    go_ret
    exact ⟨rfl, hend⟩
theorem own0 : ownKnob Try.prog.godebug = none := by kernel_rfl
theorem laidOut0 : laidOutB Try.prog = true := by kernel_rfl
set_option maxRecDepth 100000 in
theorem exactPastAt_lifted (os : Os) (started : os.Started) (H : Type) (enc : TypeId × Value → H) :
    ReturnsInHanded {} Try.checked os 13 .any (Rows.fnExactPastAtSpec.pre6 enc Try.prog Try.f13 Rows.fnExactPastAtRow.domain false) (Rows.fnExactPastAtSpec.post enc Try.prog Try.f13 false true false false) := by
  refine returnsInHanded_of_change (C := Try.checked) own0 started (by kernel_rfl) Try.func13
    (ChangeSpec.witness6 (enc := enc) (C := Try.checked) false ⟨#[], #[.agg #[.int .i64 0, .slice none 0 0], .int .i64 0], []⟩ 8 (by kernel_rfl) (by kernel_rfl) (by kernel_rfl) (by kernel_rfl)) ?_
  intro W base args ds gs before hval0 hW hcnd _
  have hval : ∀ (j : Nat) t v, Try.f13.params[j]? = some t → args[j]? = some v → Value.okWide Try.prog W .any base t v := hval0
  have hW' := hW
  obtain ⟨p, q, hA0, hV, rfl, hfz, hnd⟩ := hW
  have hA : DataW.TrodAll enc Try.prog W 0 (fun _ => true) true Try.f13.params.toList args.toList ds p := hA0
  rw [Try.params13] at hA hval
  obtain ⟨v0, vs0, d0, ds0, p0, q0, hargs, rfl, rfl, h0, r0⟩ := trodAll_cons hA
  obtain ⟨v1, vs1, d1, ds1, p1, q1, rfl, rfl, rfl, h1, r1⟩ := trodAll_cons r0
  obtain ⟨rfl, rfl, rfl⟩ := trodAll_nil r1
  obtain rfl : args = #[v0, v1] := by cases args; simp_all
  obtain ⟨rfl, rfl⟩ := trodVars_none hV
  have k0 := h0
  have k1 := h1
  have lt0 : ∀ x ∈ p0, x.block < W.heap.size := by obtain ⟨m, hm⟩ := k0; exact DataW.trod_lt m _ _ _ hm
  have lt1 : ∀ x ∈ p1, x.block < W.heap.size := by obtain ⟨m, hm⟩ := k1; exact DataW.trod_lt m _ _ _ hm
  obtain ⟨now, A, l, c, rfl, hf, hR⟩ := open_vers (hval 0 66 v0 rfl rfl) h0
  obtain ⟨t, rfl, rfl, rfl, ht⟩ := open_int Try.underlying3 (hval 1 3 v1 rfl rfl) h1
  clear hA0 hval0
  refine (lawPastAt A l c now t W hf hR).mono fun e W' ⟨he, bel⟩ => ?_
  subst he
  exact ⟨_, rfl, _, _, _, [], _, [], hW', trodAll_mk1 (shut_bool Try.underlying4 _), (trodAll_cons_mk (Below.trod laidOut0 (by kernel_rfl) (of_decide_eq_true (by kernel_rfl)) k0 bel lt0) (trodAll_cons_mk (Below.trod laidOut0 (by kernel_rfl) (of_decide_eq_true (by kernel_rfl)) k1 bel lt1) trodAll_mk0)), rfl, bel.frame _, fun h => by cases h⟩

theorem exactPastAt_holds : Rows.FnExactPastAtSaid :=
  OpenClaim.holds_of_wide 13 Try.f13 rfl rfl rfl rfl rfl rfl rfl ⟨rfl, rfl, rfl, rfl, rfl⟩ rfl rfl rfl rfl rfl (by kernel_rfl) Try.func13 (by kernel_rfl)
    (of_decide_eq_true (by kernel_rfl)) (by unfold Func.isWrapper; first | (rw [if_pos (by decide +kernel)]; kernel_rfl) | (rw [if_neg (by decide +kernel)]; exact ⟨rfl, rfl⟩))
    (fun os started H enc _ => exactPastAt_lifted os started H enc)
#print axioms exactPastAt_holds
end Go.Proofs.Ytfmpohhaimgnfaa
