/- FnExactPastAll: for every store the program's PastAll returns what the reference's returns, in memory of its own, and leaves its argument as it was. No condition. -/
import Derived.Test.YteanjfjlmpgnnaaPAll
import Derived.Test.YteanjfjlmpgnnaaVrEq
import Derived.Test.YteanjfjlmpgnnaaOpenV
import Derived.Deep.RegionWith
namespace Go.Proofs.Yteanjfjlmpgnnaa
open Go.RowKit Go.ChangeShapes Go.WideShapes Go.ChangeAt Go.Deep
theorem OwnV.readsA {w : World} {B c : Nat} {A : Option Addr} {l : List Ver} (h : OwnV w B (.slice A l.length c) l) : Sl encVer 4 w A l := by
  obtain ⟨a1, a2, a3, _, _, a4⟩ := h.sl
  injection a3 with b1 b2 b3
  subst b1; exact a4
theorem QS.reads {w : World} {B c : Nat} {A : Option Addr} {qs : List Wrow} (h : QS w B (.slice A qs.length c) qs) : Sl2 w A qs := by
  obtain ⟨A', c', e', _, _, hSv⟩ := Sl.of_own encWrow_len h.1
  injection e' with e1 e2 e3
  rw [e1]
  exact ⟨hSv, fun r hr => (h.2.1 r hr).reads⟩
theorem own_neA {w : World} {B g k n : Nat} {e T : TypeId} {v : Value} {xs : List Value} {cs : Array Value} (h : w.ownsRow B e k v n xs) (hb : Blk w g T cs) (hT : T ≠ e) : some g ≠ v.ownBlock := by
  rcases h.2 with ⟨rfl, _⟩ | ⟨g', cap, cur, rfl, _, hg, _⟩
  · simp [Value.ownBlock]
  · intro e
    simp [Value.ownBlock] at e
    subst e
    unfold Blk at hb
    rw [hb] at hg
    simp at hg
    exact hT hg.2
/-- what another row's writing leaves -/
theorem QS.far {w w' : World} {B B2 k n : Nat} {e : TypeId} {v v2 : Value} {qs : List Wrow} {xs : List Value} (h : QS w B v qs) (h2 : w.ownsRow B2 e k v2 n xs) (he : 41 ≠ e) (he2 : 46 ≠ e) (hg : w.grownBy w' v2.ownBlock) : QS w' B v qs :=
  ⟨own_farW h.1 hg (own_apart h.1 h2 he), fun r hr => own_farW (h.2.1 r hr) hg (own_apart (h.2.1 r hr) h2 he2), h.2.2⟩
/-- all blocks of rows lie below N -/
def LowQ (N : Nat) (v : Value) (qs : List Wrow) : Prop := (∀ j, v.ownBlock = some j → j < N) ∧ ∀ r ∈ qs, ∀ j, (Value.slice r.1 r.2.2.length r.2.1).ownBlock = some j → j < N
theorem QS.low {w : World} {B : Nat} {v : Value} {qs : List Wrow} (h : QS w B v qs) : LowQ w.heap.size v qs := ⟨fun j hj => (h.1.lt j hj).2, fun r hr j hj => ((h.2.1 r hr).lt j hj).2⟩
theorem QS.mk {w w' : World} {B B2 N : Nat} {v : Value} {qs : List Wrow} (h : QS w B v qs) (hm : MK B2 N w w') (hl : LowQ B2 v qs) : QS w' B v qs :=
  ⟨hm.own h.1 (fun j hj => .inl (hl.1 j hj)), fun r hr => hm.own (h.2.1 r hr) (fun j hj => .inl (hl.2 r hr j hj)), h.2.2⟩
theorem fitsQ {w : World} {B : Nat} {v : Value} {qs : List Wrow} (h : QS w B v qs) (hn : qs.length ≤ 1048576) : FitsR qs := ⟨by unfold maxLen; omega, fun r hr => (h.2.2.2 r hr).1⟩
theorem lens_bound : ∀ (qs : List Wrow), (∀ r ∈ qs, r.2.2.length ≤ 120) → lens qs ≤ 120 * qs.length := by
  intro qs
  induction qs with
  | nil => intro _; simp [lens]
  | cons r qs ih =>
    intro h
    have h1 := ih (fun s hs => h s (by simp [hs]))
    have h2 := h r (by simp)
    unfold lens at *
    simp only [List.map_cons, List.sum_cons, List.length_cons]
    omega
theorem allD_len (now : Int) (l : List Ver) : (allD now l).length ≤ 40 := by
  cases hv : versB now l
  · rw [allD_no hv]; simp
  · have := (versB_out hv).1
    rw [allD_yes hv, doneL_len]; omega
theorem short_of {qs : List Wrow} {now : Int} {l : List Ver} (h : cont qs = allD now l) : qs.length ≤ 40 := by
  have := allD_len now l
  rw [← h, cont_len] at this
  exact this
/-- what stands while the law runs: the argument's box, the reference's answer, the copy handed in, the program's answer -/
def LA (w : World) (n8 b4 b6 b9 : Nat) (now : Int) (A AS AX AG : Option Addr) (l : List Ver) (qS qG : List Wrow) (c cS cX cG : Nat) (W : World) : Prop :=
  Below w.heap.size w W ∧ Blk W w.heap.size 24 #[.int .i64 now, .slice A l.length c] ∧ QS W b4 (.slice AS qS.length cS) qS ∧
  (Blk W n8 32 #[.int .i64 now, .slice AX l.length cX] ∧ OwnV W b6 (.slice AX l.length cX) l) ∧ QS W b9 (.slice AG qG.length cG) qG ∧ b9 ≤ W.heap.size
theorem LA.below {w : World} {n8 b4 b6 b9 : Nat} {now : Int} {A AS AX AG : Option Addr} {l : List Ver} {qS qG : List Wrow} {c cS cX cG : Nat} {W W' : World} (h : LA w n8 b4 b6 b9 now A AS AX AG l qS qG c cS cX cG W) (hb : Below W.heap.size W W') : LA w n8 b4 b6 b9 now A AS AX AG l qS qG c cS cX cG W' := by
  obtain ⟨h1, h2, h3, ⟨h5, h6⟩, h7, h8⟩ := h
  exact ⟨bthen h1 hb, h2.kept hb, h3.below hb, ⟨h5.kept hb, own_kept h6 hb⟩, h7.below hb, Nat.le_trans h8 hb.size⟩
/-- what stands when the copy handed in is marked -/
def LB2 (w : World) (b4 b9 : Nat) (now : Int) (A AS AG : Option Addr) (l : List Ver) (qS qG : List Wrow) (c cS cG : Nat) (W : World) : Prop :=
  Below w.heap.size w W ∧ Blk W w.heap.size 24 #[.int .i64 now, .slice A l.length c] ∧ QS W b4 (.slice AS qS.length cS) qS ∧ QS W b9 (.slice AG qG.length cG) qG ∧ b9 ≤ W.heap.size
theorem LB2.below {w : World} {b4 b9 : Nat} {now : Int} {A AS AG : Option Addr} {l : List Ver} {qS qG : List Wrow} {c cS cG : Nat} {W W' : World} (h : LB2 w b4 b9 now A AS AG l qS qG c cS cG W) (hb : Below W.heap.size W W') : LB2 w b4 b9 now A AS AG l qS qG c cS cG W' := by
  obtain ⟨h1, h2, h3, h7, h8⟩ := h
  exact ⟨bthen h1 hb, h2.kept hb, h3.below hb, h7.below hb, Nat.le_trans h8 hb.size⟩
theorem LA.markX {w : World} {n8 b4 b6 b9 : Nat} {now : Int} {A AS AX AG : Option Addr} {l : List Ver} {qS qG : List Wrow} {c cS cX cG : Nat} {W W' : World} (h : LA w n8 b4 b6 b9 now A AS AX AG l qS qG c cS cX cG W)
    (hg : W.grownBy W' (Value.slice AX l.length cX).ownBlock) (hw : w.heap.size ≤ b6) : LB2 w b4 b9 now A AS AG l qS qG c cS cG W' := by
  obtain ⟨h1, h2, h3, ⟨_, h6⟩, h7, h8⟩ := h
  exact ⟨below_own h1 hg h1.size (fun j hj => by have := (h6.lt j hj).1; omega), h2.grown hg (own_neA h6 h2 (by decide)), h3.far h6 (by decide) (by decide) hg, h7.far h6 (by decide) (by decide) hg, Nat.le_trans h8 hg.size⟩
/-- what stands when the program's answer is marked -/
def LC (w : World) (b4 : Nat) (now : Int) (A AS AG : Option Addr) (l : List Ver) (qS qG : List Wrow) (c cS : Nat) (W : World) : Prop :=
  Below w.heap.size w W ∧ Blk W w.heap.size 24 #[.int .i64 now, .slice A l.length c] ∧ QS W b4 (.slice AS qS.length cS) qS ∧ HoldM W AG qG 1
theorem LC.below {w : World} {b4 : Nat} {now : Int} {A AS AG : Option Addr} {l : List Ver} {qS qG : List Wrow} {c cS : Nat} {W W' : World} (h : LC w b4 now A AS AG l qS qG c cS W) (hb : Below W.heap.size W W') : LC w b4 now A AS AG l qS qG c cS W' := by
  obtain ⟨h1, h2, h3, h7⟩ := h
  exact ⟨bthen h1 hb, h2.kept hb, h3.below hb, h7.below hb⟩
theorem LB2.markG {w : World} {b4 b9 N : Nat} {now : Int} {A AS AG : Option Addr} {l : List Ver} {qS qG : List Wrow} {c cS cG : Nat} {W W' : World} (h : LB2 w b4 b9 now A AS AG l qS qG c cS cG W)
    (hm : MK b9 N W W') (hM : HoldM W' AG qG 1) (hw : w.heap.size < b9) (hS : LowQ b9 (.slice AS qS.length cS) qS) : LC w b4 now A AS AG l qS qG c cS W' := by
  obtain ⟨h1, h2, h3, _, _⟩ := h
  exact ⟨hm.below h1 (by omega) h1.size, hm.blk h2 (.inl hw), h3.mk hm hS, hM⟩
set_option maxRecDepth 100000 in
set_option maxHeartbeats 4000000 in
theorem lawPastAll (A : Option Addr) (l : List Ver) (c : Nat) (now : Int) (w : World) (hf : FitsV l) (hR : Sl encVer 4 w A l) :
    Calls Try.prog 10 #[.agg #[.int .i64 now, .slice A l.length c]] w fun e w' => e = .returned (.bool true) ∧ Below w.heap.size w w' := by
  have hb0 := (Below.refl w.heap.size w).alloc (Nat.le_refl _) (.cells #[.int .i64 now, .slice A l.length c] 24)
  have hB0 := Blk.new w 24 #[.int .i64 now, .slice A l.length c]
  have r0 : (w.alloc (.cells #[.int .i64 now, .slice A l.length c] 24)).cell? ⟨w.heap.size, 0, none⟩ = some (.int .i64 now) := hB0.cell 0
  have r1 : (w.alloc (.cells #[.int .i64 now, .slice A l.length c] 24)).cell? ⟨w.heap.size, 1, none⟩ = some (.slice A l.length c) := hB0.cell 1
  have HSZ := Lib.hid (szVers_any A l c now 1048576 (w.alloc (.cells #[.int .i64 now, .slice A l.length c] 24)) hf (hR.below hb0) (by omega) (by omega))
  go_enter Try.func10, Try.ntmps10
  go_wp2_with fail
  generalize w.alloc (.cells #[.int .i64 now, .slice A l.length c] 24) = w0 at *
  refine HSZ.out.mono ?_
  rintro e w2 ⟨rfl, hb1⟩
  clear HSZ
  by_cases hs1 : ¬ ((l.length + vsz l : Nat) : Int) ≤ 1048576
  · have HZ := Lib.hid (sz_no (t := l.length + vsz l) (a := 1048576) (by omega))
    rw [HZ.out]
    go_wp2
    go_ret
    exact ⟨rfl, bthen hb0 hb1⟩
  have hs1 := Decidable.not_not.1 hs1
  have HZ := Lib.hid (sz_yes hs1)
  rw [HZ.out]
  generalize hle : (1048576 : Int) - ((l.length + vsz l : Nat) : Int) = left at *
  have hl0 : 0 ≤ left := by omega
  have hl2 : l.length ≤ 1048576 := by omega
  have hd1 : decide (left < 0) = false := decide_eq_false (by omega)
  have hB2 := hB0.kept hb1
  have hb02 := bthen hb0 hb1
  clear hB0 hb0 hb1 HZ r0 r1 hle hs1 hl0
  have HRA := Lib.hid hR
  clear hR
  have r0 : w2.cell? ⟨w.heap.size, 0, none⟩ = some (.int .i64 now) := hB2.cell 0
  have r1 : w2.cell? ⟨w.heap.size, 1, none⟩ = some (.slice A l.length c) := hB2.cell 1
  go_wp2_with fail
  refine (toVers_any A l c now w2 hl2 (HRA.out.below hb02)).mono ?_
  rintro e w4 ⟨va, rfl, hoa, hb4⟩
  obtain ⟨Aa, ca, rfl, _, _, hSa⟩ := hoa.sl
  have hb04 := bthen hb02 hb4
  have hB4 := hB2.kept hb4
  have hz3 := hB4.lt
  have HC := Lib.hid (specAllF_any Aa l ca now w4 hf hl2 hSa)
  clear hoa hb02 hB2 r0 r1 hSa hb4
  go_wp2_with fail
  refine HC.out.mono ?_
  rintro e w6 ⟨qS, AS, cS, rfl, hown, hcS, hb5⟩
  have hqS := short_of hcS
  have HCS := Lib.hid hcS
  have hb06 := bthen hb04 hb5
  have hB6 := hB4.kept hb5
  have hoS := hown
  have hz5 := hb5.size
  have hz4 := hb04.size
  have r0 : w6.cell? ⟨w.heap.size, 0, none⟩ = some (.int .i64 now) := hB6.cell 0
  have r1 : w6.cell? ⟨w.heap.size, 1, none⟩ = some (.slice A l.length c) := hB6.cell 1
  have HC2 := Lib.hid (toVers_any A l c now w6 hl2 (HRA.out.below hb06))
  clear hown hb04 hB4 hb5 HC hcS
  go_wp2_with fail
  have HLS := Lib.hid hoS.low
  refine HC2.out.mono ?_
  rintro e w7 ⟨vx, rfl, hox, hb7⟩
  obtain ⟨AX, cX, rfl, _, _, hSX⟩ := hox.sl
  have hz7 := hb7.size
  have hb8 := (Below.refl w7.heap.size w7).alloc (Nat.le_refl _) (.cells #[.int .i64 now, .slice AX l.length cX] 32)
  have hb68 := bthen hb7 hb8
  have hb08 := bthen hb06 hb68
  have hB8 := hB6.kept hb68
  have hoS8 := hoS.below hb68
  have hX8 := Blk.new w7 32 #[.int .i64 now, .slice AX l.length cX]
  have hoX8 : OwnV (w7.alloc (.cells #[.int .i64 now, .slice AX l.length cX] 32)) w6.heap.size (.slice AX l.length cX) l := own_kept hox hb8
  have hz8 : (w7.alloc (.cells #[.int .i64 now, .slice AX l.length cX] 32)).heap.size = w7.heap.size + 1 := by simp
  have r0 : (w7.alloc (.cells #[.int .i64 now, .slice AX l.length cX] 32)).cell? ⟨w7.heap.size, 0, none⟩ = some (.int .i64 now) := hX8.cell 0
  have r1 : (w7.alloc (.cells #[.int .i64 now, .slice AX l.length cX] 32)).cell? ⟨w7.heap.size, 1, none⟩ = some (.slice AX l.length cX) := hX8.cell 1
  have HC4 := Lib.hid (implAll_any AX l cX now (w7.alloc (.cells #[.int .i64 now, .slice AX l.length cX] 32)) hf hl2 (hSX.below hb8))
  clear hSX hox hb06 hB6 hoS hb7 hb8 hb68 HC2
  go_wp2_with fail
  generalize w7.alloc (.cells #[.int .i64 now, .slice AX l.length cX] 32) = w9 at *
  refine HC4.out.mono ?_
  rintro e w11 ⟨qG, AG, cG, rfl, hog, hcG, hb10⟩
  have hqG := short_of hcG
  have HEQ := Lib.hid (show cont qG = cont qS by rw [hcG, HCS.out])
  have HLG := Lib.hid (lens_bound qG (fun r hr => (hog.2.2.2 r hr).2))
  have HVD := Lib.hid (show LA w w7.heap.size w4.heap.size w6.heap.size w9.heap.size now A AS AX AG l qS qG c cS cX cG w11 from
    ⟨bthen hb08 hb10, hB8.kept hb10, hoS8.below hb10, ⟨hX8.kept hb10, own_kept hoX8 hb10⟩, hog, hb10.size⟩)
  have hz10 := hb10.size
  have HN := Lib.hid (show w.heap.size < w4.heap.size ∧ w4.heap.size ≤ w6.heap.size ∧ w6.heap.size ≤ w7.heap.size ∧ w9.heap.size = w7.heap.size + 1 ∧ w9.heap.size ≤ w11.heap.size from ⟨hz3, hz5, hz7, hz8, hz10⟩)
  clear hb08 hB8 hoS8 hX8 hoX8 hog hb10 HC4 r0 r1 hcG
  have hlg := HLG.out
  have HE := Lib.hid (eqWriteSS_any AG AS qG qS cG cS w11 (fitsQ HVD.out.2.2.2.2.1 (by omega)) (fitsQ HVD.out.2.2.1 (by omega)) HVD.out.2.2.2.2.1.reads HVD.out.2.2.1.reads HEQ.out)
  go_wp2_with fail
  refine HE.out.mono ?_
  rintro e w12 ⟨rfl, hb12⟩
  have HVD2 := Lib.hid (HVD.out.below hb12)
  clear HE HVD hb12 hz10
  have r0 : w12.cell? ⟨w7.heap.size, 0, none⟩ = some (.int .i64 now) := HVD2.out.2.2.2.1.1.cell 0
  have r1 : w12.cell? ⟨w7.heap.size, 1, none⟩ = some (.slice AX l.length cX) := HVD2.out.2.2.2.1.1.cell 1
  have r2 : w12.cell? ⟨w.heap.size, 0, none⟩ = some (.int .i64 now) := HVD2.out.2.1.cell 0
  have r3 : w12.cell? ⟨w.heap.size, 1, none⟩ = some (.slice A l.length c) := HVD2.out.2.1.cell 1
  have hbd := (Below.refl w12.heap.size w12).drew
  have HVD3 := Lib.hid (HVD2.out.below hbd)
  have HC := Lib.hid (toVers_any A l c now w12.drew hl2 (HRA.out.below HVD3.out.1))
  clear hbd
  go_wp2_with fail
  go_region_with (first
    | (go_at_call 42; refine HE.out.mono ?_; rintro e w16 ⟨rfl, hb14⟩; have HVD7 := Lib.hid (HVD4.out.below hb14); clear hb14)
    | (go_at_call 40; refine HC.out.mono ?_; rintro e w13 ⟨vq, rfl, hoq, hb13⟩; obtain ⟨Aq, cq, rfl, _, _, hSq⟩ := hoq.sl; have HVD4 := Lib.hid (HVD3.out.below hb13); have r5 : w13.cell? ⟨w7.heap.size, 0, none⟩ = some (.int .i64 now) := HVD4.out.2.2.2.1.1.cell 0; have r6 : w13.cell? ⟨w7.heap.size, 1, none⟩ = some (.slice AX l.length cX) := HVD4.out.2.2.2.1.1.cell 1; have HE := Lib.hid (eqVers_same AX Aq l cX cq now w13 (Nat.le_trans hl2 (by unfold maxLen; omega)) HVD4.out.2.2.2.1.2.readsA hSq); clear hoq hSq hb13))
  all_goals
    clear HVD2 HVD3 HVD4 HC HE r0 r1 r2 r3 r5 r6
    have r0 : w16.cell? ⟨w7.heap.size, 0, none⟩ = some (.int .i64 now) := HVD7.out.2.2.2.1.1.cell 0
    have r1 : w16.cell? ⟨w7.heap.size, 1, none⟩ = some (.slice AX l.length cX) := HVD7.out.2.2.2.1.1.cell 1
    have HMX := Lib.hid (markVers_any w6.heap.size AX cX l now 1 w16 (by omega) (by omega) (by have := HVD7.out.2.2.2.1.1.lt; have := HN.out; omega) HVD7.out.2.2.2.1.2)
    go_wp2_with fail
    refine HMX.out.mono ?_
    rintro e w17 ⟨rfl, _, hg17⟩
    have HVF2 := Lib.hid (HVD7.out.markX hg17 (by have := HN.out; omega))
    clear hg17 HMX HVD7 r0 r1
    generalize hkk : 1 + 4 * l.length = kk2 at *
    have hd3 : decide (((kk2 : Nat) : Int) < 0) = false := decide_eq_false (by omega)
    have HE := Lib.hid (eqWriteSS_any AG AS qG qS cG cS w17 (fitsQ HVF2.out.2.2.2.1 (by omega)) (fitsQ HVF2.out.2.2.1 (by omega)) HVF2.out.2.2.2.1.reads HVF2.out.2.2.1.reads HEQ.out)
    clear hkk
    go_wp2_with fail
    refine HE.out.mono ?_
    rintro e w19 ⟨rfl, hb19⟩
    have HVF3 := Lib.hid (HVF2.out.below hb19)
    clear HE HVF2 hb19
    have HMG := Lib.hid (markSSH_any w9.heap.size AG cG qG 1 w19 HVF3.out.2.2.2.2 (by omega) (by omega) (by omega) HVF3.out.2.2.2.1)
    go_wp2_with fail
    refine HMG.out.mono ?_
    rintro e w20 ⟨rfl, hm20, hM⟩
    have HVE := Lib.hid (HVF3.out.markG hm20 hM (by have := HN.out; omega) ⟨fun j hj => by have := HLS.out.1 j hj; have := HN.out; omega, fun r hr j hj => by have := HLS.out.2 r hr j hj; have := HN.out; omega⟩)
    clear hM hm20 HMG HVF3
    have HH := Lib.hid (fun W (hW : HoldM W AG qG 1) => heldSS_any AG cG qG 1 W (by omega) (by omega) (by omega) hW)
    generalize hmm : 1 + 3 * lens qG = mm at *
    have hd4 : decide (((mm : Nat) : Int) < 0) = false := decide_eq_false (by omega)
    clear hmm
    go_wp2_with fail
    refine (HH.out w20 HVE.out.2.2.2).mono ?_
    rintro e w21 ⟨rfl, hb21⟩
    have HVE2 := Lib.hid (HVE.out.below hb21)
    clear HVE hb21
    have r2 : w21.cell? ⟨w.heap.size, 0, none⟩ = some (.int .i64 now) := HVE2.out.2.1.cell 0
    have r3 : w21.cell? ⟨w.heap.size, 1, none⟩ = some (.slice A l.length c) := HVE2.out.2.1.cell 1
    have HC5 := Lib.hid (toVers_any A l c now w21 hl2 (HRA.out.below HVE2.out.1))
    go_wp2_with fail
    refine HC5.out.mono ?_
    rintro e w23 ⟨va, rfl, hoa, hb22⟩
    obtain ⟨Aa2, ca2, rfl, _, _, hSa⟩ := hoa.sl
    have HVE4 := Lib.hid (HVE2.out.below hb22)
    have HC7 := Lib.hid (implAll_any Aa2 l ca2 now w23 hf hl2 hSa)
    clear HC5 HVE2 hb22 hoa hSa r2 r3
    go_wp2_with fail
    refine HC7.out.mono ?_
    rintro e w25 ⟨qH, AH, cH, rfl, hoh, hcH, hb24⟩
    have hqH := short_of hcH
    have HVE5 := Lib.hid (HVE4.out.below hb24)
    have HE2 := Lib.hid (eqWriteSS_any AH AS qH qS cH cS w25 (fitsQ hoh (by omega)) (fitsQ HVE5.out.2.2.1 (by omega)) hoh.reads HVE5.out.2.2.1.reads (by rw [hcH, HCS.out]))
    clear HC7 HVE4 hb24 hoh hcH
    go_wp2_with fail
    refine HE2.out.mono ?_
    rintro e w26 ⟨rfl, hb26⟩
    have HVE6 := Lib.hid (HVE5.out.below hb26)
    clear HE2 HVE5 hb26
    go_wp2_with fail
    refine (HH.out w26 HVE6.out.2.2.2).mono ?_
    rintro e w27 ⟨rfl, hb27⟩
    have hend := bthen HVE6.out.1 hb27
    go_wp2
    go_ret
    exact ⟨rfl, hend⟩
theorem own0 : ownKnob Try.prog.godebug = none := by kernel_rfl
theorem laidOut0 : laidOutB Try.prog = true := by kernel_rfl
set_option maxRecDepth 100000 in
theorem exactPastAll_lifted (os : Os) (started : os.Started) (H : Type) (enc : TypeId × Value → H) :
    ReturnsInHanded {} Try.checked os 10 .any (Rows.fnExactPastAllSpec.pre6 enc Try.prog Try.f10 Rows.fnExactPastAllRow.domain false) (Rows.fnExactPastAllSpec.post enc Try.prog Try.f10 false true false false) := by
  refine returnsInHanded_of_change (C := Try.checked) own0 started (by kernel_rfl) Try.func10
    (ChangeSpec.witness6 (enc := enc) (C := Try.checked) false ⟨#[], #[.agg #[.int .i64 0, .slice none 0 0]], []⟩ 8 (by kernel_rfl) (by kernel_rfl) (by kernel_rfl) (by kernel_rfl)) ?_
  intro W base args ds gs before hval0 hW hcnd _
  have hval : ∀ (j : Nat) t v, Try.f10.params[j]? = some t → args[j]? = some v → Value.okWide Try.prog W .any base t v := hval0
  have hW' := hW
  obtain ⟨p, q, hA0, hV, rfl, hfz, hnd⟩ := hW
  have hA : DataW.TrodAll enc Try.prog W 0 (fun _ => true) true Try.f10.params.toList args.toList ds p := hA0
  rw [Try.params10] at hA hval
  obtain ⟨v0, vs0, d0, ds0, p0, q0, hargs, rfl, rfl, h0, r0⟩ := trodAll_cons hA
  obtain ⟨rfl, rfl, rfl⟩ := trodAll_nil r0
  obtain rfl : args = #[v0] := by cases args; simp_all
  obtain ⟨rfl, rfl⟩ := trodVars_none hV
  have k0 := h0
  have lt0 : ∀ x ∈ p0, x.block < W.heap.size := by obtain ⟨m, hm⟩ := k0; exact DataW.trod_lt m _ _ _ hm
  obtain ⟨now, A, l, c, rfl, hf, hR⟩ := open_vers (hval 0 24 v0 rfl rfl) h0
  clear hA0 hval0
  refine (lawPastAll A l c now W hf hR).mono fun e W' ⟨he, bel⟩ => ?_
  subst he
  exact ⟨_, rfl, _, _, _, [], _, [], hW', trodAll_mk1 (shut_bool Try.underlying4 _), (trodAll_cons_mk (Below.trod laidOut0 (by kernel_rfl) (of_decide_eq_true (by kernel_rfl)) k0 bel lt0) trodAll_mk0), rfl, bel.frame _, fun h => by cases h⟩

theorem exactPastAll_holds : Rows.FnExactPastAllSaid :=
  OpenClaim.holds_of_wide 10 Try.f10 rfl rfl rfl rfl rfl rfl rfl ⟨rfl, rfl, rfl, rfl, rfl⟩ rfl rfl rfl rfl rfl (by kernel_rfl) Try.func10 (by kernel_rfl)
    (of_decide_eq_true (by kernel_rfl)) (by unfold Func.isWrapper; first | (rw [if_pos (by decide +kernel)]; kernel_rfl) | (rw [if_neg (by decide +kernel)]; exact ⟨rfl, rfl⟩))
    (fun os started H enc _ => exactPastAll_lifted os started H enc)
#print axioms exactPastAll_holds
end Go.Proofs.Yteanjfjlmpgnnaa
