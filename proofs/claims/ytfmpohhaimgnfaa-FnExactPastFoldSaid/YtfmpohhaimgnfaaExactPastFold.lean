/- FnExactPastFold: for every history the program's PastFold returns what the reference's returns, in memory of its own, and leaves its argument as it was. No condition. -/
import Derived.Test.YtfmpohhaimgnfaaFoldS
import Derived.Test.YtfmpohhaimgnfaaFoldI
import Derived.Test.YtfmpohhaimgnfaaWriSO
import Derived.Test.YtfmpohhaimgnfaaVrEq
import Derived.Test.YtfmpohhaimgnfaaOpenR
import Derived.Deep.RegionWith
namespace Go.Proofs.Ytfmpohhaimgnfaa
open Go.RowKit Go.ChangeShapes Go.WideShapes Go.ChangeAt Go.Deep
theorem rsz_mem2 {l : List (List Wri)} {x : List Wri} (h : x ∈ l) : x.length ≤ rsz l := by
  unfold rsz
  induction l with
  | nil => cases h
  | cons y l ih =>
    rw [List.map_cons, List.sum_cons]
    rcases List.mem_cons.1 h with rfl | h
    · omega
    · have := ih h; omega
theorem fits_same2 {rs qs : List Wrow} (h : FitsR rs) (he : cont qs = cont rs) : FitsR qs := by
  refine ⟨by rw [← cont_len qs, he, cont_len]; exact h.1, fun r hr => ?_⟩
  have : r.2.2 ∈ cont qs := List.mem_map.2 ⟨r, hr, rfl⟩
  rw [he] at this
  obtain ⟨r2, h2, e⟩ := List.mem_map.1 this
  rw [← e]; exact h.2 r2 h2
theorem row_short2 {rs qs : List Wrow} (h : (rs.length + rsz (cont rs) : Nat) ≤ 1048576) (he : cont qs = cont rs) : qs.length ≤ 1048576 ∧ ∀ r ∈ qs, r.2.2.length ≤ 1048576 := by
  refine ⟨by rw [← cont_len qs, he, cont_len]; omega, fun r hr => ?_⟩
  have : r.2.2 ∈ cont qs := List.mem_map.2 ⟨r, hr, rfl⟩
  rw [he] at this
  have := rsz_mem2 this
  omega
theorem lens_rsz : ∀ qs : List Wrow, lens qs ≤ rsz (cont qs) := by
  intro qs
  induction qs with
  | nil => exact Nat.zero_le _
  | cons r qs ih =>
    unfold lens rsz cont at *
    simp only [List.map_cons, List.sum_cons]
    omega
theorem own_neT2 {w : World} {B g k n : Nat} {e T : TypeId} {v : Value} {xs : List Value} {cs : Array Value} (h : w.ownsRow B e k v n xs) (hb : Blk w g T cs) (hT : T ≠ e) : some g ≠ v.ownBlock := by
  rcases h.2 with ⟨rfl, _⟩ | ⟨g', cap, cur, rfl, _, hg, _⟩
  · simp [Value.ownBlock]
  · intro e
    simp [Value.ownBlock] at e
    subst e
    unfold Blk at hb
    rw [hb] at hg
    simp at hg
    exact hT hg.2
theorem own_far2 {w w' : World} {B k : Nat} {e : TypeId} {v v2 : Value} {n : Nat} {xs : List Value} (h : w.ownsRow B e k v n xs) (hg : w.grownBy w' v2.ownBlock) (hd : ∀ j, v.ownBlock = some j → v2.ownBlock = some j → False) : w'.ownsRow B e k v n xs := by
  refine h.kept hg ?_
  cases hv : v.ownBlock with
  | none => exact .inl rfl
  | some j => exact .inr (fun e => hd j hv e.symm)
theorem OwnRs.below {w w' : World} {B : Nat} {rs : List Wrow} (h : OwnRs w B rs) (hb : Below w.heap.size w w') : OwnRs w' B rs := fun r hr => by
  obtain ⟨xs, hx⟩ := h r hr
  exact ⟨xs, own_kept hx hb⟩
/-- the reference's answer -/
def PS (n5 b4 : Nat) (nw : Int) (AS : Option Addr) (L : List Ver) (cS : Nat) (W : World) : Prop := Blk W n5 25 #[.int .i64 nw, .slice AS L.length cS] ∧ OwnV W b4 (.slice AS L.length cS) L
theorem PS.below {n5 b4 : Nat} {nw : Int} {AS : Option Addr} {L : List Ver} {cS : Nat} {W W' : World} (h : PS n5 b4 nw AS L cS W) (hb : Below W.heap.size W W') : PS n5 b4 nw AS L cS W' := ⟨h.1.kept hb, own_kept h.2 hb⟩
/-- what stands while the law runs: the reference's answer, the copy handed in, the program's answer -/
def PD (w : World) (n5 b8 n10 b4 b9 : Nat) (nw : Int) (AS AG : Option Addr) (L : List Ver) (qs : List Wrow) (cS cG : Nat) (W : World) : Prop :=
  Below w.heap.size w W ∧ PS n5 b4 nw AS L cS W ∧ (Sl2 W (some ⟨b8, 0, none⟩) qs ∧ OwnRs W (b8 + 1) qs) ∧ PS n10 b9 nw AG L cG W
theorem PD.below {w : World} {n5 b8 n10 b4 b9 : Nat} {nw : Int} {AS AG : Option Addr} {L : List Ver} {qs : List Wrow} {cS cG : Nat} {W W' : World} (h : PD w n5 b8 n10 b4 b9 nw AS AG L qs cS cG W) (hb : Below W.heap.size W W') : PD w n5 b8 n10 b4 b9 nw AS AG L qs cS cG W' := by
  obtain ⟨h1, h2, ⟨h3, h4⟩, h5⟩ := h
  exact ⟨bthen h1 hb, h2.below hb, ⟨h3.below hb, h4.below hb⟩, h5.below hb⟩
/-- what stands when the copy handed in is marked -/
def PF (w : World) (n5 n10 b4 b9 : Nat) (nw : Int) (AS AG : Option Addr) (L : List Ver) (cS cG : Nat) (W : World) : Prop :=
  Below w.heap.size w W ∧ PS n5 b4 nw AS L cS W ∧ PS n10 b9 nw AG L cG W
theorem PF.below {w : World} {n5 n10 b4 b9 : Nat} {nw : Int} {AS AG : Option Addr} {L : List Ver} {cS cG : Nat} {W W' : World} (h : PF w n5 n10 b4 b9 nw AS AG L cS cG W) (hb : Below W.heap.size W W') : PF w n5 n10 b4 b9 nw AS AG L cS cG W' := ⟨bthen h.1 hb, h.2.1.below hb, h.2.2.below hb⟩
theorem PD.mark {w : World} {n5 b8 n10 b4 b9 N : Nat} {nw : Int} {AS AG : Option Addr} {L : List Ver} {qs : List Wrow} {cS cG : Nat} {W W' : World} (h : PD w n5 b8 n10 b4 b9 nw AS AG L qs cS cG W) (hm : MK (b8 + 1) N W W') (hw : w.heap.size ≤ b8) (h5 : n5 < b8) (hS : ∀ j, (Value.slice AS L.length cS).ownBlock = some j → j < b8) (h10 : N ≤ n10) (h9 : N ≤ b9) : PF w n5 n10 b4 b9 nw AS AG L cS cG W' := by
  obtain ⟨h1, ⟨h2, h3⟩, _, h6, h7⟩ := h
  refine ⟨hm.below h1 (by omega) h1.size, ⟨hm.blk h2 (.inl (by omega)), hm.own h3 (fun j hj => .inl (by have := hS j hj; omega))⟩, hm.blk h6 (.inr h10), hm.own h7 (fun j hj => .inr (by have := (h7.lt j hj).1; omega))⟩
/-- what stands when the program's answer is marked -/
def PE (w : World) (n5 n10 b4 : Nat) (nw : Int) (AS AG : Option Addr) (L M : List Ver) (cS cG : Nat) (W : World) : Prop :=
  Below w.heap.size w W ∧ PS n5 b4 nw AS L cS W ∧ Blk W n10 25 #[.int .i64 nw, .slice AG L.length cG] ∧ Sl encVer 4 W AG M
theorem PE.below {w : World} {n5 n10 b4 : Nat} {nw : Int} {AS AG : Option Addr} {L M : List Ver} {cS cG : Nat} {W W' : World} (h : PE w n5 n10 b4 nw AS AG L M cS cG W) (hb : Below W.heap.size W W') : PE w n5 n10 b4 nw AS AG L M cS cG W' := ⟨bthen h.1 hb, h.2.1.below hb, h.2.2.1.kept hb, h.2.2.2.below hb⟩
theorem PF.markG {w : World} {n5 n10 b4 b9 : Nat} {nw : Int} {AS AG : Option Addr} {L M : List Ver} {cS cG : Nat} {W W' : World} (h : PF w n5 n10 b4 b9 nw AS AG L cS cG W)
    (hg : W.grownBy W' (Value.slice AG L.length cG).ownBlock) (hM : Sl encVer 4 W' AG M) (hw : w.heap.size ≤ b9) (hS : ∀ j, (Value.slice AS L.length cS).ownBlock = some j → j < b9) : PE w n5 n10 b4 nw AS AG L M cS cG W' := by
  obtain ⟨h1, ⟨h3, h4⟩, h8, h9⟩ := h
  refine ⟨below_own h1 hg h1.size (fun j hj => by have := (h9.lt j hj).1; omega), ⟨h3.grown hg (own_neT2 h9 h3 (by decide)), own_far2 h4 hg (fun j e1 e2 => ?_)⟩, h8.grown hg (own_neT2 h9 h8 (by decide)), hM⟩
  have := hS j e1; have := (h9.lt j e2).1; omega
set_option maxRecDepth 100000 in
set_option maxHeartbeats 4000000 in
theorem lawPastFold (A : Option Addr) (rs : List Wrow) (c : Nat) (w : World) (hf : FitsR rs) (hR : Sl2 w A rs) :
    Calls Try.prog 9 #[.slice A rs.length c] w fun e w' => e = .returned (.bool true) ∧ Below w.heap.size w w' := by
  by_cases hsz : ¬ ((rs.length + rsz (cont rs) : Nat) : Int) ≤ 1048576
  · have HZ := Lib.hid (sz_no (t := rs.length + rsz (cont rs)) (a := 1048576) (by omega))
    go_enter Try.func9, Try.ntmps9
    go_wp2_with fail
    refine (szWriteSS_any A rs c _ _ hf hR (by omega) (by omega)).mono ?_
    rintro e w1 ⟨rfl, hb1⟩
    rw [HZ.out]
    go_wp2
    go_ret
    exact ⟨rfl, hb1⟩
  have hsz := Decidable.not_not.1 hsz
  have HZ := Lib.hid (sz_yes hsz)
  have HSH := Lib.hid (fun (qs : List Wrow) (he : cont qs = cont rs) => row_short2 (rs := rs) (qs := qs) (by omega) he)
  have HLN := Lib.hid (fun (qs : List Wrow) (he : cont qs = cont rs) => show lens qs ≤ 1048576 by have := lens_rsz qs; rw [he] at this; omega)
  have HFS := Lib.hid (fun (qs : List Wrow) (he : cont qs = cont rs) => fits_same2 (qs := qs) hf he)
  have HFL := Lib.hid (goF_short (cont rs) 0 [] (by simp))
  have hd : decide ((1048576 : Int) - ((rs.length : Int) + (rsz (cont rs) : Int)) < 0) = false := by simp; omega
  have HSZ := Lib.hid (szWriteSS_any A rs c 1048576 w hf hR (by omega) (by omega))
  have HRA := Lib.hid hR
  have HF := Lib.hid hf
  have hrl := (HSH.out rs rfl).1
  have HRW := Lib.hid (HSH.out rs rfl).2
  clear hsz hR hf
  generalize hgo : goF 0 [] (cont rs) = R at *
  have HGO := Lib.hid hgo
  clear hgo
  obtain ⟨⟨nw, L⟩, ok⟩ := R
  have hL60 : L.length ≤ 60 := HFL.out
  clear HFL
  go_enter Try.func9, Try.ntmps9
  go_wp2_with fail
  refine HSZ.out.mono ?_
  rintro e w1 ⟨rfl, hb1⟩
  rw [HZ.out]
  clear HZ HSZ
  have HTO := Lib.hid (toWriteSS_own A rs c w1 hrl HRW.out (HRA.out.below hb1))
  go_wp2_with fail
  clear hd
  refine HTO.out.mono ?_
  rintro e w4 ⟨qa, rfl, q1, q2, q3, q4, _, q5, hb4⟩
  have hb04 := bthen hb1 hb4
  have HC := Lib.hid (specPastFold_any (some ⟨w1.heap.size, 0, none⟩) qa rs.length w4 (HFS.out qa q2) (HSH.out qa q2).1 (HSH.out qa q2).2 q4 q3)
  rw [q2, HGO.out] at HC
  clear HTO q1 q2 q3 q4 hb1 hb4
  go_wp2_with fail
  refine HC.out.mono ?_
  rintro e w5 ⟨v, rfl, hown, hb5⟩
  simp only at hown ⊢
  obtain ⟨AS, cS, rfl, _, _, hSS⟩ := hown.sl
  have hb6 := (Below.refl w5.heap.size w5).alloc (Nat.le_refl _) (.cells #[.int .i64 nw, .slice AS L.length cS] 25)
  have hb06 := bthen (bthen hb04 hb5) hb6
  have hPS6 : PS w5.heap.size w4.heap.size nw AS L cS (w5.alloc (.cells #[.int .i64 nw, .slice AS L.length cS] 25)) := ⟨Blk.new w5 25 #[.int .i64 nw, .slice AS L.length cS], own_kept hown hb6⟩
  have HZ6 := Lib.hid (show (w5.alloc (.cells #[.int .i64 nw, .slice AS L.length cS] 25)).heap.size = w5.heap.size + 1 by simp)
  have hz5 := hb5.size
  have hz4 := hb04.size
  have HTO := Lib.hid (toWriteSS_own A rs c (w5.alloc (.cells #[.int .i64 nw, .slice AS L.length cS] 25)) hrl HRW.out (HRA.out.below hb06))
  clear hSS hown hb04 hb5 hb6 HC
  go_wp2_with fail
  generalize w5.alloc (.cells #[.int .i64 nw, .slice AS L.length cS] 25) = w6 at *
  have HLS := Lib.hid (show ∀ j, (Value.slice AS L.length cS).ownBlock = some j → j < w6.heap.size from fun j hj => (hPS6.2.lt j hj).2)
  refine HTO.out.mono ?_
  rintro e w9 ⟨qs, rfl, q1, q2, q3, q4, q5, hlt9, hb9⟩
  have hz9 := hb9.size
  have hb09 := bthen hb06 hb9
  have hPS9 := hPS6.below hb9
  have HQ := Lib.hid (⟨q1, q2⟩ : _ ∧ _)
  have HLQ := Lib.hid (show ∀ r ∈ qs, ∀ j, (Value.slice r.1 r.2.2.length r.2.1).ownBlock = some j → j < w9.heap.size from fun r hr j hj => by obtain ⟨xs, hx⟩ := q5 r hr; exact (hx.lt j hj).2)
  have HC := Lib.hid (implPastFold_any (some ⟨w6.heap.size, 0, none⟩) qs rs.length w9 (HFS.out qs q2) (HSH.out qs q2).1 (HSH.out qs q2).2 q3)
  rw [q2, HGO.out] at HC
  clear HTO q1 q2 hPS6 hb06 hb9
  go_wp2_with fail
  refine HC.out.mono ?_
  rintro e w10 ⟨vg, rfl, hog, hb10⟩
  simp only at hog ⊢
  obtain ⟨AG, cG, rfl, _, _, hSG⟩ := hog.sl
  have hz10 := hb10.size
  have hb11 := (Below.refl w10.heap.size w10).alloc (Nat.le_refl _) (.cells #[.int .i64 nw, .slice AG L.length cG] 25)
  have hb911 := bthen hb10 hb11
  have HPD := Lib.hid (show PD w w5.heap.size w6.heap.size w10.heap.size w4.heap.size w9.heap.size nw AS AG L qs cS cG (w10.alloc (.cells #[.int .i64 nw, .slice AG L.length cG] 25)) from
    ⟨bthen hb09 hb911, hPS9.below hb911, ⟨q3.below hb911, OwnRs.below q5 hb911⟩, Blk.new w10 25 _, own_kept hog hb11⟩)
  have HN := Lib.hid (show w.heap.size ≤ w4.heap.size ∧ w4.heap.size ≤ w5.heap.size ∧ w6.heap.size = w5.heap.size + 1 ∧ w6.heap.size < w9.heap.size ∧ w9.heap.size ≤ w10.heap.size from ⟨hz4, hz5, HZ6.out, hlt9, hz10⟩)
  clear hb09 hPS9 hog hSG hb10 hb11 hb911 HC q3 q4 q5
  have hS := HPD.out.2.1
  have hG := HPD.out.2.2.2
  have r0 : (w10.alloc (.cells #[.int .i64 nw, .slice AG L.length cG] 25)).cell? ⟨w5.heap.size, 0, none⟩ = some (.int .i64 nw) := hS.1.cell 0
  have r1 : (w10.alloc (.cells #[.int .i64 nw, .slice AG L.length cG] 25)).cell? ⟨w5.heap.size, 1, none⟩ = some (.slice AS L.length cS) := hS.1.cell 1
  have HE := Lib.hid (eqVers_same AG AS L cG cS nw _ (by unfold maxLen; omega) hG.2.reads2 hS.2.reads2)
  clear hS hG
  go_wp2_with fail
  generalize w10.alloc (.cells #[.int .i64 nw, .slice AG L.length cG] 25) = w11 at *
  refine HE.out.mono ?_
  rintro e w12 ⟨rfl, hb12⟩
  have HPD2 := Lib.hid (HPD.out.below hb12)
  clear HE HPD r0 r1 hb12
  have HTO := Lib.hid (toWriteSS_own A rs c w12 hrl HRW.out (HRA.out.below HPD2.out.1))
  go_wp2_with fail
  refine HTO.out.mono ?_
  rintro e w13 ⟨qb, rfl, q1, q2, q3, _, _, _, hb13⟩
  have HPD3 := Lib.hid (HPD2.out.below hb13)
  have HE := Lib.hid (eqWriteSS_any (some ⟨w6.heap.size, 0, none⟩) (some ⟨w12.heap.size, 0, none⟩) qs qb rs.length rs.length w13 (HFS.out qs HQ.out.2) (HFS.out qb q2) HPD3.out.2.2.1.1 q3 (HQ.out.2.trans q2.symm))
  clear HTO HPD2 q1 q2 q3 hb13
  go_wp2_with fail
  refine HE.out.mono ?_
  rintro e w14 ⟨rfl, hb14⟩
  have HPD4 := Lib.hid (HPD3.out.below hb14)
  clear HE HPD3 hb14
  have HMK := Lib.hid (markWriteSS_any w6.heap.size (w6.heap.size + 1) w9.heap.size rs.length qs 1 w14 (by omega) (by have := HPD4.out.2.2.2.1.lt; have := HN.out; omega) (by have := HLN.out qs HQ.out.2; omega) (by have := HLN.out qs HQ.out.2; omega) (by have := (HSH.out qs HQ.out.2).1; omega) HPD4.out.2.2.1.1.1 HPD4.out.2.2.1.2 HLQ.out)
  go_wp2_with fail
  refine HMK.out.mono ?_
  rintro e w18 ⟨rfl, hm18⟩
  have HPF := Lib.hid (HPD4.out.mark hm18 (by have := HN.out; omega) (by have := HN.out; omega) HLS.out (by have := HN.out; omega) (Nat.le_refl _))
  clear HMK HPD4 hm18
  generalize hkk2 : 1 + 3 * lens qs = kk2 at *
  have hd3 : decide (((kk2 : Nat) : Int) < 0) = false := decide_eq_false (by omega)
  have r0 : w18.cell? ⟨w10.heap.size, 0, none⟩ = some (.int .i64 nw) := HPF.out.2.2.1.cell 0
  have r1 : w18.cell? ⟨w10.heap.size, 1, none⟩ = some (.slice AG L.length cG) := HPF.out.2.2.1.cell 1
  have r2 : w18.cell? ⟨w5.heap.size, 0, none⟩ = some (.int .i64 nw) := HPF.out.2.1.1.cell 0
  have r3 : w18.cell? ⟨w5.heap.size, 1, none⟩ = some (.slice AS L.length cS) := HPF.out.2.1.1.cell 1
  have HE := Lib.hid (eqVers_same AG AS L cG cS nw w18 (by unfold maxLen; omega) HPF.out.2.2.2.reads2 HPF.out.2.1.2.reads2)
  clear hkk2
  go_wp2_with fail
  refine HE.out.mono ?_
  rintro e w19 ⟨rfl, hb19⟩
  have HPF2 := Lib.hid (HPF.out.below hb19)
  clear HE r0 r1 r2 r3 HPF hb19
  have r0 : w19.cell? ⟨w10.heap.size, 0, none⟩ = some (.int .i64 nw) := HPF2.out.2.2.1.cell 0
  have r1 : w19.cell? ⟨w10.heap.size, 1, none⟩ = some (.slice AG L.length cG) := HPF2.out.2.2.1.cell 1
  have HMG := Lib.hid (markVers_any w9.heap.size AG cG L nw 1 w19 (by omega) (by omega) (by have := HPF2.out.2.2.1.lt; have := HN.out; omega) HPF2.out.2.2.2)
  go_wp2_with fail
  refine HMG.out.mono ?_
  rintro e w20 ⟨rfl, hM, hg20⟩
  have HPE := Lib.hid (HPF2.out.markG hg20 hM (by have := HN.out; omega) (fun j hj => by have := HLS.out j hj; have := HN.out; omega))
  clear hM hg20 HMG HPF2 r0 r1
  have r0 : w20.cell? ⟨w10.heap.size, 0, none⟩ = some (.int .i64 nw) := HPE.out.2.2.1.cell 0
  have r1 : w20.cell? ⟨w10.heap.size, 1, none⟩ = some (.slice AG L.length cG) := HPE.out.2.2.1.cell 1
  have HH := Lib.hid (fun W (hW : Sl encVer 4 W AG (mkV 1 L.length)) => heldVers_any AG cG L.length 1 nw W (by omega) (by omega) hW)
  generalize hmm : 1 + 4 * L.length = mm at *
  have hd4 : decide (((mm : Nat) : Int) < 0) = false := decide_eq_false (by omega)
  clear hmm
  go_wp2_with fail
  refine (HH.out w20 HPE.out.2.2.2).mono ?_
  rintro e w21 ⟨rfl, hb21⟩
  have HPE2 := Lib.hid (HPE.out.below hb21)
  clear HPE hb21 r0 r1
  have HTO := Lib.hid (toWriteSS_own A rs c w21 hrl HRW.out (HRA.out.below HPE2.out.1))
  go_wp2_with fail
  refine HTO.out.mono ?_
  rintro e w23 ⟨qd, rfl, q1, q2, q3, _, _, _, hb23⟩
  have HPE4 := Lib.hid (HPE2.out.below hb23)
  have HC7 := Lib.hid (implPastFold_any (some ⟨w21.heap.size, 0, none⟩) qd rs.length w23 (HFS.out qd q2) (HSH.out qd q2).1 (HSH.out qd q2).2 q3)
  rw [q2, HGO.out] at HC7
  clear HTO HPE2 hb23 q1 q2 q3
  go_wp2_with fail
  refine HC7.out.mono ?_
  rintro e w24 ⟨vh, rfl, hoh, hb24⟩
  simp only at hoh ⊢
  obtain ⟨AH, cH, rfl, _, _, hSH⟩ := hoh.sl
  have hb25 := (Below.refl w24.heap.size w24).alloc (Nat.le_refl _) (.cells #[.int .i64 nw, .slice AH L.length cH] 25)
  have HPE5 := Lib.hid ((HPE4.out.below hb24).below hb25)
  have r0 : (w24.alloc (.cells #[.int .i64 nw, .slice AH L.length cH] 25)).cell? ⟨w5.heap.size, 0, none⟩ = some (.int .i64 nw) := HPE5.out.2.1.1.cell 0
  have r1 : (w24.alloc (.cells #[.int .i64 nw, .slice AH L.length cH] 25)).cell? ⟨w5.heap.size, 1, none⟩ = some (.slice AS L.length cS) := HPE5.out.2.1.1.cell 1
  have HE2 := Lib.hid (eqVers_same AH AS L cH cS nw (w24.alloc (.cells #[.int .i64 nw, .slice AH L.length cH] 25)) (by unfold maxLen; omega) (hSH.below hb25) HPE5.out.2.1.2.reads2)
  clear HC7 HPE4 hb24 hb25 hoh hSH
  go_wp2_with fail
  generalize w24.alloc (.cells #[.int .i64 nw, .slice AH L.length cH] 25) = w25 at *
  refine HE2.out.mono ?_
  rintro e w26 ⟨rfl, hb26⟩
  have HPE6 := Lib.hid (HPE5.out.below hb26)
  clear HE2 HPE5 hb26 r0 r1
  have r0 : w26.cell? ⟨w10.heap.size, 0, none⟩ = some (.int .i64 nw) := HPE6.out.2.2.1.cell 0
  have r1 : w26.cell? ⟨w10.heap.size, 1, none⟩ = some (.slice AG L.length cG) := HPE6.out.2.2.1.cell 1
  go_wp2_with fail
  refine (HH.out w26 HPE6.out.2.2.2).mono ?_
  rintro e w27 ⟨rfl, hb27⟩
  have hend := bthen HPE6.out.1 hb27
  go_wp2
  go_ret
  exact ⟨rfl, hend⟩
theorem own0 : ownKnob Try.prog.godebug = none := by kernel_rfl
theorem laidOut0 : laidOutB Try.prog = true := by kernel_rfl
set_option maxRecDepth 100000 in
theorem exactPastFold_lifted (os : Os) (started : os.Started) (H : Type) (enc : TypeId × Value → H) :
    ReturnsInHanded {} Try.checked os 9 .any (Rows.fnExactPastFoldSpec.pre6 enc Try.prog Try.f9 Rows.fnExactPastFoldRow.domain false) (Rows.fnExactPastFoldSpec.post enc Try.prog Try.f9 false true false false) := by
  refine returnsInHanded_of_change (C := Try.checked) own0 started (by kernel_rfl) Try.func9
    (ChangeSpec.witness6 (enc := enc) (C := Try.checked) false ⟨#[], #[.slice none 0 0], []⟩ 8 (by kernel_rfl) (by kernel_rfl) (by kernel_rfl) (by kernel_rfl)) ?_
  intro W base args ds gs before hval0 hW hcnd _
  have hval : ∀ (j : Nat) t v, Try.f9.params[j]? = some t → args[j]? = some v → Value.okWide Try.prog W .any base t v := hval0
  have hW' := hW
  obtain ⟨p, q, hA0, hV, rfl, hfz, hnd⟩ := hW
  have hA : DataW.TrodAll enc Try.prog W 0 (fun _ => true) true Try.f9.params.toList args.toList ds p := hA0
  rw [Try.params9] at hA hval
  obtain ⟨v0, vs0, d0, ds0, p0, q0, hargs, rfl, rfl, h0, r0⟩ := trodAll_cons hA
  obtain ⟨rfl, rfl, rfl⟩ := trodAll_nil r0
  obtain rfl : args = #[v0] := by cases args; simp_all
  obtain ⟨rfl, rfl⟩ := trodVars_none hV
  have k0 := h0
  have lt0 : ∀ x ∈ p0, x.block < W.heap.size := by obtain ⟨m, hm⟩ := k0; exact DataW.trod_lt m _ _ _ hm
  obtain ⟨A, rs, c, rfl, hf, hR⟩ := open_rows (hval 0 46 v0 rfl rfl) h0
  clear hA0 hval0
  refine (lawPastFold A rs c W hf hR).mono fun e W' ⟨he, bel⟩ => ?_
  subst he
  exact ⟨_, rfl, _, _, _, [], _, [], hW', trodAll_mk1 (shut_bool Try.underlying4 _), (trodAll_cons_mk (Below.trod laidOut0 (by kernel_rfl) (of_decide_eq_true (by kernel_rfl)) k0 bel lt0) trodAll_mk0), rfl, bel.frame _, fun h => by cases h⟩

theorem exactPastFold_holds : Rows.FnExactPastFoldSaid :=
  OpenClaim.holds_of_wide 9 Try.f9 rfl rfl rfl rfl rfl rfl rfl ⟨rfl, rfl, rfl, rfl, rfl⟩ rfl rfl rfl rfl rfl (by kernel_rfl) Try.func9 (by kernel_rfl)
    (of_decide_eq_true (by kernel_rfl)) (by unfold Func.isWrapper; first | (rw [if_pos (by decide +kernel)]; kernel_rfl) | (rw [if_neg (by decide +kernel)]; exact ⟨rfl, rfl⟩))
    (fun os started H enc _ => exactPastFold_lifted os started H enc)
#print axioms exactPastFold_holds
end Go.Proofs.Ytfmpohhaimgnfaa
