/- FnExactVersDo: for every store and every row of writes the program's VersDo returns what the reference's returns, in memory of its own, and leaves its arguments as they were. No condition. -/
import Derived.Test.YtfmpohhaimgnfaaL2Do
import Derived.Test.YtfmpohhaimgnfaaImplDo
import Derived.Test.YtfmpohhaimgnfaaVrEq
import Derived.Test.YtfmpohhaimgnfaaWrMk
import Derived.Test.YtfmpohhaimgnfaaWriSz
import Derived.Test.YtfmpohhaimgnfaaWriEq
import Derived.Test.YtfmpohhaimgnfaaOpenV
import Derived.Deep.RegionWith
namespace Go.Proofs.Ytfmpohhaimgnfaa
open Go.RowKit Go.ChangeShapes Go.WideShapes Go.ChangeAt Go.Deep
theorem doV_len (now : Int) (l : List Ver) (ws : List Wri) : (doV now l ws).1.2.length ≤ l.length + ws.length := by
  unfold doV
  have := doS_len (now + 1) ws l
  split
  · split
    · split
      · exact this
      · exact Nat.le_add_right _ _
    · exact Nat.le_add_right _ _
  · exact Nat.zero_le _
theorem OwnV.reads {w : World} {B c : Nat} {A : Option Addr} {l : List Ver} (h : OwnV w B (.slice A l.length c) l) : Sl encVer 4 w A l := by
  obtain ⟨a1, a2, a3, _, _, a4⟩ := h.sl
  injection a3 with b1 b2 b3
  subst b1; exact a4
theorem ownW_reads {w : World} {B c : Nat} {A : Option Addr} {l : List Wri} (h : w.ownsRow B 61 3 (.slice A l.length c) l.length (l.flatMap encWri)) : Sl encWri 3 w A l := by
  obtain ⟨a1, a2, a3, _, _, a4⟩ := Sl.of_own encWri_len h
  injection a3 with b1 b2 b3
  subst b1; exact a4
theorem own_neT {w : World} {B g k n : Nat} {e T : TypeId} {v : Value} {xs : List Value} {cs : Array Value} (h : w.ownsRow B e k v n xs) (hb : Blk w g T cs) (hT : T ≠ e) : some g ≠ v.ownBlock := by
  rcases h.2 with ⟨rfl, _⟩ | ⟨g', cap, cur, rfl, _, hg, _⟩
  · simp [Value.ownBlock]
  · intro e
    simp [Value.ownBlock] at e
    subst e
    unfold Blk at hb
    rw [hb] at hg
    simp at hg
    exact hT hg.2
theorem own_far {w w' : World} {B k : Nat} {e : TypeId} {v v2 : Value} {n : Nat} {xs : List Value} (h : w.ownsRow B e k v n xs) (hg : w.grownBy w' v2.ownBlock) (hd : ∀ j, v.ownBlock = some j → v2.ownBlock = some j → False) : w'.ownsRow B e k v n xs := by
  refine h.kept hg ?_
  cases hv : v.ownBlock with
  | none => exact .inl rfl
  | some j => exact .inr (fun e => hd j hv e.symm)
/-- what stands while the law runs: the argument's box, the reference's answer, the copies handed in, the program's answer -/
def VD (w : World) (n6 n8 n10 b4 b6 b8 b9 : Nat) (now nw : Int) (A AS AX AG A1 : Option Addr) (l L : List Ver) (ws : List Wri) (c cS cX cG c1 : Nat) (W : World) : Prop :=
  Below w.heap.size w W ∧ Blk W w.heap.size 66 #[.int .i64 now, .slice A l.length c] ∧ (Blk W n6 25 #[.int .i64 nw, .slice AS L.length cS] ∧ OwnV W b4 (.slice AS L.length cS) L) ∧
  (Blk W n8 25 #[.int .i64 now, .slice AX l.length cX] ∧ OwnV W b6 (.slice AX l.length cX) l) ∧ W.ownsRow b8 61 3 (.slice A1 ws.length c1) ws.length (ws.flatMap encWri) ∧ (Blk W n10 25 #[.int .i64 nw, .slice AG L.length cG] ∧ OwnV W b9 (.slice AG L.length cG) L)
theorem VD.below {w : World} {n6 n8 n10 b4 b6 b8 b9 : Nat} {now nw : Int} {A AS AX AG A1 : Option Addr} {l L : List Ver} {ws : List Wri} {c cS cX cG c1 : Nat} {W W' : World} (h : VD w n6 n8 n10 b4 b6 b8 b9 now nw A AS AX AG A1 l L ws c cS cX cG c1 W) (hb : Below W.heap.size W W') : VD w n6 n8 n10 b4 b6 b8 b9 now nw A AS AX AG A1 l L ws c cS cX cG c1 W' := by
  obtain ⟨h1, h2, ⟨h3, h4⟩, ⟨h5, h6⟩, h7, h8, h9⟩ := h
  exact ⟨bthen h1 hb, h2.kept hb, ⟨h3.kept hb, own_kept h4 hb⟩, ⟨h5.kept hb, own_kept h6 hb⟩, own_kept h7 hb, h8.kept hb, own_kept h9 hb⟩
/-- what stands when the copies handed in are marked -/
def VF (w : World) (n6 n10 b4 b9 : Nat) (now nw : Int) (A AS AG : Option Addr) (l L : List Ver) (c cS cG : Nat) (W : World) : Prop :=
  Below w.heap.size w W ∧ Blk W w.heap.size 66 #[.int .i64 now, .slice A l.length c] ∧ (Blk W n6 25 #[.int .i64 nw, .slice AS L.length cS] ∧ OwnV W b4 (.slice AS L.length cS) L) ∧ (Blk W n10 25 #[.int .i64 nw, .slice AG L.length cG] ∧ OwnV W b9 (.slice AG L.length cG) L)
theorem VF.below {w : World} {n6 n10 b4 b9 : Nat} {now nw : Int} {A AS AG : Option Addr} {l L : List Ver} {c cS cG : Nat} {W W' : World} (h : VF w n6 n10 b4 b9 now nw A AS AG l L c cS cG W) (hb : Below W.heap.size W W') : VF w n6 n10 b4 b9 now nw A AS AG l L c cS cG W' := by
  obtain ⟨h1, h2, ⟨h3, h4⟩, h8, h9⟩ := h
  exact ⟨bthen h1 hb, h2.kept hb, ⟨h3.kept hb, own_kept h4 hb⟩, h8.kept hb, own_kept h9 hb⟩
theorem VD.markX {w : World} {n6 n8 n10 b4 b6 b8 b9 : Nat} {now nw : Int} {A AS AX AG A1 : Option Addr} {l L : List Ver} {ws : List Wri} {c cS cX cG c1 : Nat} {W W' : World} (h : VD w n6 n8 n10 b4 b6 b8 b9 now nw A AS AX AG A1 l L ws c cS cX cG c1 W)
    (hg : W.grownBy W' (Value.slice AX l.length cX).ownBlock) (hw : w.heap.size ≤ b6) (hS : ∀ j, (Value.slice AS L.length cS).ownBlock = some j → j < b6) (hX : ∀ j, (Value.slice AX l.length cX).ownBlock = some j → j < b8) (h89 : b8 ≤ b9) :
    VF w n6 n10 b4 b9 now nw A AS AG l L c cS cG W' ∧ W'.ownsRow b8 61 3 (.slice A1 ws.length c1) ws.length (ws.flatMap encWri) := by
  obtain ⟨h1, h2, ⟨h3, h4⟩, ⟨_, h6⟩, h7, h8, h9⟩ := h
  refine ⟨⟨below_own h1 hg h1.size (fun j hj => by have := (h6.lt j hj).1; omega), h2.grown hg (own_neT h6 h2 (by decide)), ⟨h3.grown hg (own_neT h6 h3 (by decide)), own_far h4 hg (fun j e1 e2 => ?_)⟩, h8.grown hg (own_neT h6 h8 (by decide)), own_far h9 hg (fun j e1 e2 => ?_)⟩, own_far h7 hg (fun j e1 e2 => ?_)⟩
  · have := hS j e1; have := (h6.lt j e2).1; omega
  · have := hX j e2; have := (h9.lt j e1).1; omega
  · have := hX j e2; have := (h7.lt j e1).1; omega
theorem VF.mark1 {w : World} {n6 n10 b4 b8 b9 : Nat} {now nw : Int} {A AS AG A1 : Option Addr} {l L : List Ver} {ws : List Wri} {c cS cG c1 : Nat} {W W' : World} (h : VF w n6 n10 b4 b9 now nw A AS AG l L c cS cG W) (h7 : W.ownsRow b8 61 3 (.slice A1 ws.length c1) ws.length (ws.flatMap encWri))
    (hg : W.grownBy W' (Value.slice A1 ws.length c1).ownBlock) (hw : w.heap.size ≤ b8) (hS : ∀ j, (Value.slice AS L.length cS).ownBlock = some j → j < b8) (h1x : ∀ j, (Value.slice A1 ws.length c1).ownBlock = some j → j < b9) :
    VF w n6 n10 b4 b9 now nw A AS AG l L c cS cG W' := by
  obtain ⟨h1, h2, ⟨h3, h4⟩, h8, h9⟩ := h
  refine ⟨below_own h1 hg h1.size (fun j hj => by have := (h7.lt j hj).1; omega), h2.grown hg (own_neT h7 h2 (by decide)), ⟨h3.grown hg (own_neT h7 h3 (by decide)), own_far h4 hg (fun j e1 e2 => ?_)⟩, h8.grown hg (own_neT h7 h8 (by decide)), own_far h9 hg (fun j e1 e2 => ?_)⟩
  · have := hS j e1; have := (h7.lt j e2).1; omega
  · have := h1x j e2; have := (h9.lt j e1).1; omega
/-- what stands when the program's answer is marked -/
def VE (w : World) (n6 n10 b4 : Nat) (now nw : Int) (A AS AG : Option Addr) (l L M : List Ver) (c cS cG : Nat) (W : World) : Prop :=
  Below w.heap.size w W ∧ Blk W w.heap.size 66 #[.int .i64 now, .slice A l.length c] ∧ (Blk W n6 25 #[.int .i64 nw, .slice AS L.length cS] ∧ OwnV W b4 (.slice AS L.length cS) L) ∧ Blk W n10 25 #[.int .i64 nw, .slice AG L.length cG] ∧ Sl encVer 4 W AG M
theorem VE.below {w : World} {n6 n10 b4 : Nat} {now nw : Int} {A AS AG : Option Addr} {l L M : List Ver} {c cS cG : Nat} {W W' : World} (h : VE w n6 n10 b4 now nw A AS AG l L M c cS cG W) (hb : Below W.heap.size W W') : VE w n6 n10 b4 now nw A AS AG l L M c cS cG W' := by
  obtain ⟨h1, h2, ⟨h3, h4⟩, h8, h9⟩ := h
  exact ⟨bthen h1 hb, h2.kept hb, ⟨h3.kept hb, own_kept h4 hb⟩, h8.kept hb, h9.below hb⟩
theorem VF.markG {w : World} {n6 n10 b4 b9 : Nat} {now nw : Int} {A AS AG : Option Addr} {l L M : List Ver} {c cS cG : Nat} {W W' : World} (h : VF w n6 n10 b4 b9 now nw A AS AG l L c cS cG W)
    (hg : W.grownBy W' (Value.slice AG L.length cG).ownBlock) (hM : Sl encVer 4 W' AG M) (hw : w.heap.size ≤ b9) (hS : ∀ j, (Value.slice AS L.length cS).ownBlock = some j → j < b9) : VE w n6 n10 b4 now nw A AS AG l L M c cS cG W' := by
  obtain ⟨h1, h2, ⟨h3, h4⟩, h8, h9⟩ := h
  refine ⟨below_own h1 hg h1.size (fun j hj => by have := (h9.lt j hj).1; omega), h2.grown hg (own_neT h9 h2 (by decide)), ⟨h3.grown hg (own_neT h9 h3 (by decide)), own_far h4 hg (fun j e1 e2 => ?_)⟩, h8.grown hg (own_neT h9 h8 (by decide)), hM⟩
  have := hS j e1; have := (h9.lt j e2).1; omega
set_option maxRecDepth 100000 in
set_option maxHeartbeats 4000000 in
theorem lawVersDo (A A2 : Option Addr) (l : List Ver) (ws : List Wri) (c c2 : Nat) (now : Int) (w : World) (hf : FitsV l) (hf2 : FitsW ws) (hR : Sl encVer 4 w A l) (hR2 : Sl encWri 3 w A2 ws) :
    Calls Try.prog 10 #[.agg #[.int .i64 now, .slice A l.length c], .slice A2 ws.length c2] w fun e w' => e = .returned (.bool true) ∧ Below w.heap.size w w' := by
  have hb0 := (Below.refl w.heap.size w).alloc (Nat.le_refl _) (.cells #[.int .i64 now, .slice A l.length c] 66)
  have hB0 := Blk.new w 66 #[.int .i64 now, .slice A l.length c]
  have r0 : (w.alloc (.cells #[.int .i64 now, .slice A l.length c] 66)).cell? ⟨w.heap.size, 0, none⟩ = some (.int .i64 now) := hB0.cell 0
  have r1 : (w.alloc (.cells #[.int .i64 now, .slice A l.length c] 66)).cell? ⟨w.heap.size, 1, none⟩ = some (.slice A l.length c) := hB0.cell 1
  have HSZ := Lib.hid (szVers_any A l c now 1048576 (w.alloc (.cells #[.int .i64 now, .slice A l.length c] 66)) hf (hR.below hb0) (by omega) (by omega))
  go_enter Try.func10, Try.ntmps10
  go_wp2_with fail
  generalize w.alloc (.cells #[.int .i64 now, .slice A l.length c] 66) = w0 at *
  refine HSZ.out.mono ?_
  rintro e w1 ⟨rfl, hb1⟩
  clear HSZ
  by_cases hs1 : ¬ ((l.length + vsz l : Nat) : Int) ≤ 1048576
  · have HZ := Lib.hid (sz_no (t := l.length + vsz l) (a := 1048576) (by omega))
    rw [HZ.out]
    go_wp2
    go_ret
    exact ⟨rfl, bthen hb0 hb1⟩
  have hs1 := Decidable.not_not.1 hs1
  have HZ := Lib.hid (sz_yes hs1)
  rw [HZ.out]
  generalize hle : (1048576 : Int) - ((l.length + vsz l : Nat) : Int) = left at *
  have hl0 : 0 ≤ left := by omega
  have hl1 : left ≤ 1048576 := by omega
  have hl2 : l.length ≤ 1048576 := by omega
  have hd1 : decide (left < 0) = false := decide_eq_false (by omega)
  have hB1 := hB0.kept hb1
  have hb01 := bthen hb0 hb1
  clear hB0 hb0 hb1 HZ r0 r1 hle hs1
  have HSZ2 := Lib.hid (szWriteS_any A2 ws c2 left w1 hf2 (hR2.below hb01) hl0 hl1)
  go_wp2_with fail
  refine HSZ2.out.mono ?_
  rintro e w2 ⟨rfl, hb2⟩
  clear HSZ2
  have hb02 := bthen hb01 hb2
  have hB2 := hB1.kept hb2
  clear hb01 hB1 hb2
  by_cases hs2 : ¬ ((ws.length + wsz ws : Nat) : Int) ≤ left
  · have HZ := Lib.hid (sz_no (t := ws.length + wsz ws) (a := left) (by omega))
    rw [HZ.out]
    go_wp2
    go_ret
    exact ⟨rfl, hb02⟩
  have hs2 := Decidable.not_not.1 hs2
  have HZ := Lib.hid (sz_yes hs2)
  rw [HZ.out]
  generalize hle : left - ((ws.length + wsz ws : Nat) : Int) = left2 at *
  have hd2 : decide (left2 < 0) = false := decide_eq_false (by omega)
  have hw2 : ws.length ≤ 1048576 := by omega
  have HDV := Lib.hid (doV_len now l ws)
  generalize hdv : doV now l ws = R at *
  have HR := Lib.hid hdv
  clear hdv HZ hs2 hle hl0 hl1 hd1
  obtain ⟨⟨nw, L⟩, ok⟩ := R
  have hLl : L.length ≤ 2097152 := by have := HDV.out; simp only at this; omega
  have HRA := Lib.hid hR
  have HRA2 := Lib.hid hR2
  clear hR hR2 HDV
  have r0 : w2.cell? ⟨w.heap.size, 0, none⟩ = some (.int .i64 now) := hB2.cell 0
  have r1 : w2.cell? ⟨w.heap.size, 1, none⟩ = some (.slice A l.length c) := hB2.cell 1
  go_wp2_with fail
  refine (toVers_any A l c now w2 hl2 (HRA.out.below hb02)).mono ?_
  rintro e w3 ⟨va, rfl, hoa, hb3⟩
  obtain ⟨Aa, ca, rfl, _, _, hSa⟩ := hoa.sl
  have hb03 := bthen hb02 hb3
  have hB3 := hB2.kept hb3
  clear hoa hb02 hB2 r0 r1
  go_wp2_with fail
  refine (toWriteS_any A2 ws c2 w3 hw2 (HRA2.out.below hb03)).mono ?_
  rintro e w4 ⟨vb, rfl, hob, hb4⟩
  obtain ⟨Ab, cb, rfl, _, _, hSb⟩ := Sl.of_own encWri_len hob
  have hb04 := bthen hb03 hb4
  have hB4 := hB3.kept hb4
  have hz3 := hB4.lt
  have HC := Lib.hid (specVersDo_any Aa Ab l ws ca cb now w4 hf hl2 hf2 hw2 (hSa.below hb4) hSb)
  rw [HR.out] at HC
  clear hob hb03 hB3 hSa hSb hb3 hb4
  go_wp2_with fail
  refine HC.out.mono ?_
  rintro e w5 ⟨v, rfl, hown, hb5⟩
  simp only at hown ⊢
  obtain ⟨AS, cS, rfl, _, _, hSS⟩ := hown.sl
  have hb05 := bthen hb04 hb5
  have hB5 := hB4.kept hb5
  have hb6 := (Below.refl w5.heap.size w5).alloc (Nat.le_refl _) (.cells #[.int .i64 nw, .slice AS L.length cS] 25)
  have hb06 := bthen hb05 hb6
  have hB6 := hB5.kept hb6
  have hS6 := Blk.new w5 25 #[.int .i64 nw, .slice AS L.length cS]
  have hoS : OwnV (w5.alloc (.cells #[.int .i64 nw, .slice AS L.length cS] 25)) w4.heap.size (.slice AS L.length cS) L := own_kept hown hb6
  have hz6 : (w5.alloc (.cells #[.int .i64 nw, .slice AS L.length cS] 25)).heap.size = w5.heap.size + 1 := by simp
  have hz5 := hb5.size
  have hz4 := hb04.size
  have r0 : (w5.alloc (.cells #[.int .i64 nw, .slice AS L.length cS] 25)).cell? ⟨w.heap.size, 0, none⟩ = some (.int .i64 now) := hB6.cell 0
  have r1 : (w5.alloc (.cells #[.int .i64 nw, .slice AS L.length cS] 25)).cell? ⟨w.heap.size, 1, none⟩ = some (.slice A l.length c) := hB6.cell 1
  have HC2 := Lib.hid (toVers_any A l c now (w5.alloc (.cells #[.int .i64 nw, .slice AS L.length cS] 25)) hl2 (HRA.out.below hb06))
  clear hSS hown hb04 hB4 hb05 hB5 hb5 hb6 HC
  go_wp2_with fail
  generalize w5.alloc (.cells #[.int .i64 nw, .slice AS L.length cS] 25) = w6 at *
  have HLS := Lib.hid (show ∀ j, (Value.slice AS L.length cS).ownBlock = some j → j < w6.heap.size from fun j hj => (hoS.lt j hj).2)
  refine HC2.out.mono ?_
  rintro e w7 ⟨vx, rfl, hox, hb7⟩
  obtain ⟨AX, cX, rfl, _, _, hSX⟩ := hox.sl
  have hz7 := hb7.size
  have hb8 := (Below.refl w7.heap.size w7).alloc (Nat.le_refl _) (.cells #[.int .i64 now, .slice AX l.length cX] 25)
  have hb68 := bthen hb7 hb8
  have hb08 := bthen hb06 hb68
  have hB8 := hB6.kept hb68
  have hS8 := hS6.kept hb68
  have hoS8 : OwnV _ w4.heap.size (.slice AS L.length cS) L := own_kept hoS hb68
  have hX8 := Blk.new w7 25 #[.int .i64 now, .slice AX l.length cX]
  have hoX8 : OwnV (w7.alloc (.cells #[.int .i64 now, .slice AX l.length cX] 25)) w6.heap.size (.slice AX l.length cX) l := own_kept hox hb8
  have hz8 : (w7.alloc (.cells #[.int .i64 now, .slice AX l.length cX] 25)).heap.size = w7.heap.size + 1 := by simp
  have HC3 := Lib.hid (toWriteS_any A2 ws c2 (w7.alloc (.cells #[.int .i64 now, .slice AX l.length cX] 25)) hw2 (HRA2.out.below hb08))
  clear hSX hox hb06 hB6 hS6 hoS hb7 hb8 hb68 HC2 r0 r1
  go_wp2_with fail
  generalize w7.alloc (.cells #[.int .i64 now, .slice AX l.length cX] 25) = w8 at *
  have HLX := Lib.hid (show ∀ j, (Value.slice AX l.length cX).ownBlock = some j → j < w8.heap.size from fun j hj => (hoX8.lt j hj).2)
  refine HC3.out.mono ?_
  rintro e w9 ⟨v1, rfl, ho1, hb9⟩
  obtain ⟨A1, c1, rfl, _, _, hS1⟩ := Sl.of_own encWri_len ho1
  have hz9 := hb9.size
  have hb09 := bthen hb08 hb9
  have hB9 := hB8.kept hb9
  have hS9 := hS8.kept hb9
  have hoS9 : OwnV _ w4.heap.size (.slice AS L.length cS) L := own_kept hoS8 hb9
  have hX9 := hX8.kept hb9
  have hoX9 : OwnV w9 w6.heap.size (.slice AX l.length cX) l := own_kept hoX8 hb9
  have r0 : w9.cell? ⟨w7.heap.size, 0, none⟩ = some (.int .i64 now) := hX9.cell 0
  have r1 : w9.cell? ⟨w7.heap.size, 1, none⟩ = some (.slice AX l.length cX) := hX9.cell 1
  have HL1 := Lib.hid (show ∀ j, (Value.slice A1 ws.length c1).ownBlock = some j → j < w9.heap.size from fun j hj => (ho1.lt j hj).2)
  have HC4 := Lib.hid (implVersDo_any AX A1 l ws cX c1 now w9 hf hl2 hf2 hw2 (by obtain ⟨a1, a2, a3, _, _, a4⟩ := hoX9.sl; injection a3 with b1 b2 b3; subst b1; exact a4) hS1)
  rw [HR.out] at HC4
  clear hb08 hB8 hS8 hoS8 hX8 hoX8 hS1 HC3 hb9
  go_wp2_with fail
  refine HC4.out.mono ?_
  rintro e w10 ⟨vg, rfl, hog, hb10⟩
  simp only at hog ⊢
  obtain ⟨AG, cG, rfl, _, _, hSG⟩ := hog.sl
  have hz10 := hb10.size
  have hb11 := (Below.refl w10.heap.size w10).alloc (Nat.le_refl _) (.cells #[.int .i64 nw, .slice AG L.length cG] 25)
  have hb911 := bthen hb10 hb11
  have HVD := Lib.hid (show VD w w5.heap.size w7.heap.size w10.heap.size w4.heap.size w6.heap.size w8.heap.size w9.heap.size now nw A AS AX AG A1 l L ws c cS cX cG c1 (w10.alloc (.cells #[.int .i64 nw, .slice AG L.length cG] 25)) from
    ⟨bthen hb09 hb911, hB9.kept hb911, ⟨hS9.kept hb911, own_kept hoS9 hb911⟩, ⟨hX9.kept hb911, own_kept hoX9 hb911⟩, own_kept ho1 hb911, Blk.new _ _ _, own_kept hog hb11⟩)
  have hz11 : (w10.alloc (.cells #[.int .i64 nw, .slice AG L.length cG] 25)).heap.size = w10.heap.size + 1 := by simp
  clear hb09 hB9 hS9 hoS9 hX9 hoX9 ho1 hog hSG hb10 hb11 hb911 HC4 r0 r1
  have HN := Lib.hid (show w.heap.size < w4.heap.size ∧ w4.heap.size ≤ w5.heap.size ∧ w6.heap.size = w5.heap.size + 1 ∧ w6.heap.size ≤ w7.heap.size ∧ w8.heap.size = w7.heap.size + 1 ∧ w8.heap.size ≤ w9.heap.size ∧ w9.heap.size ≤ w10.heap.size from ⟨hz3, hz5, hz6, hz7, hz8, hz9, hz10⟩)
  have hbw := HVD.out.1
  have hS := HVD.out.2.2.1
  have hG := HVD.out.2.2.2.2.2
  have r0 : (w10.alloc (.cells #[.int .i64 nw, .slice AG L.length cG] 25)).cell? ⟨w5.heap.size, 0, none⟩ = some (.int .i64 nw) := hS.1.cell 0
  have r1 : (w10.alloc (.cells #[.int .i64 nw, .slice AG L.length cG] 25)).cell? ⟨w5.heap.size, 1, none⟩ = some (.slice AS L.length cS) := hS.1.cell 1
  have HE := Lib.hid (eqVers_same AG AS L cG cS nw _ (by unfold maxLen; omega) hG.2.reads hS.2.reads)
  clear hbw hS hG
  go_wp2_with fail
  generalize w10.alloc (.cells #[.int .i64 nw, .slice AG L.length cG] 25) = w11 at *
  refine HE.out.mono ?_
  rintro e w12 ⟨rfl, hb12⟩
  have HVD2 := Lib.hid (HVD.out.below hb12)
  clear HE HVD r0 r1 hb12 hz11
  have r0 : w12.cell? ⟨w7.heap.size, 0, none⟩ = some (.int .i64 now) := HVD2.out.2.2.2.1.1.cell 0
  have r1 : w12.cell? ⟨w7.heap.size, 1, none⟩ = some (.slice AX l.length cX) := HVD2.out.2.2.2.1.1.cell 1
  have r2 : w12.cell? ⟨w.heap.size, 0, none⟩ = some (.int .i64 now) := HVD2.out.2.1.cell 0
  have r3 : w12.cell? ⟨w.heap.size, 1, none⟩ = some (.slice A l.length c) := HVD2.out.2.1.cell 1
  have hbd := (Below.refl w12.heap.size w12).drew
  have HVD3 := Lib.hid (HVD2.out.below hbd)
  have HC := Lib.hid (toVers_any A l c now w12.drew hl2 (HRA.out.below HVD3.out.1))
  clear hbd
  go_wp2_with fail
  go_region_with (first
    | (go_at_call 40; refine HE.out.mono ?_; rintro e w14 ⟨rfl, hb14⟩; have HVD5 := Lib.hid (HVD4.out.below hb14); clear hb14)
    | (go_at_call 45; refine HC.out.mono ?_; rintro e w13 ⟨vq, rfl, hoq, hb13⟩; obtain ⟨Aq, cq, rfl, _, _, hSq⟩ := hoq.sl; have HVD4 := Lib.hid (HVD3.out.below hb13); have r5 : w13.cell? ⟨w7.heap.size, 0, none⟩ = some (.int .i64 now) := HVD4.out.2.2.2.1.1.cell 0; have r6 : w13.cell? ⟨w7.heap.size, 1, none⟩ = some (.slice AX l.length cX) := HVD4.out.2.2.2.1.1.cell 1; have HE := Lib.hid (eqVers_same AX Aq l cX cq now w13 (Nat.le_trans hl2 (by unfold maxLen; omega)) HVD4.out.2.2.2.1.2.reads hSq); clear hoq hSq hb13))
  all_goals
    have HCW := Lib.hid (toWriteS_any A2 ws c2 w14 hw2 (HRA2.out.below HVD5.out.1))
    clear HVD2 HVD3 HVD4 HC HE r0 r1 r2 r3 r5 r6
    go_wp2_with fail
    refine HCW.out.mono ?_
    rintro e w15 ⟨vq1, rfl, hoq1, hb15⟩
    obtain ⟨Aq1, cq1, rfl, _, _, hSq1⟩ := Sl.of_own encWri_len hoq1
    have HVD6 := Lib.hid (HVD5.out.below hb15)
    have HEW := Lib.hid (eqWriteS_any A1 Aq1 ws ws c1 cq1 w15 (Nat.le_trans hw2 (by unfold maxLen; omega)) (Nat.le_trans hw2 (by unfold maxLen; omega)) (ownW_reads HVD6.out.2.2.2.2.1) hSq1)
    clear hoq1 hSq1 hb15 HCW HVD5
    go_wp2_with fail
    refine HEW.out.mono ?_
    rintro e w16 ⟨rfl, hb16⟩
    rw [eqB_yes rfl]
    have HVD7 := Lib.hid (HVD6.out.below hb16)
    clear hb16 HEW HVD6
    have r0 : w16.cell? ⟨w7.heap.size, 0, none⟩ = some (.int .i64 now) := HVD7.out.2.2.2.1.1.cell 0
    have r1 : w16.cell? ⟨w7.heap.size, 1, none⟩ = some (.slice AX l.length cX) := HVD7.out.2.2.2.1.1.cell 1
    have HMX := Lib.hid (markVers_any w6.heap.size AX cX l now 1 w16 (by omega) (by omega) (by have := HVD7.out.2.2.2.1.1.lt; have := HN.out; omega) HVD7.out.2.2.2.1.2)
    go_wp2_with fail
    refine HMX.out.mono ?_
    rintro e w17 ⟨rfl, _, hg17⟩
    obtain ⟨hvf, ho17⟩ := HVD7.out.markX hg17 (by have := HN.out; omega) HLS.out HLX.out (by have := HN.out; omega)
    have HVF := Lib.hid hvf
    have HO17 := Lib.hid ho17
    clear hvf ho17 hg17 HMX HVD7 r0 r1
    generalize hkk : 1 + 4 * l.length = kk at *
    have HMW := Lib.hid (markW_any w8.heap.size A1 c1 ws.length (ws.flatMap encWri) kk w17 (by omega) (by omega) (by have := HVF.out.2.2.2.1.lt; have := HN.out; omega) HO17.out)
    go_wp2_with fail
    refine HMW.out.mono ?_
    rintro e w18 ⟨rfl, hg18⟩
    have HVF2 := Lib.hid (HVF.out.mark1 HO17.out hg18 (by have := HN.out; omega) (fun j hj => by have := HLS.out j hj; have := HN.out; omega) HL1.out)
    clear HMW hg18 HO17 HVF
    generalize hkk2 : kk + 3 * ws.length = kk2 at *
    have hd3 : decide (((kk2 : Nat) : Int) < 0) = false := decide_eq_false (by omega)
    have r0 : w18.cell? ⟨w10.heap.size, 0, none⟩ = some (.int .i64 nw) := HVF2.out.2.2.2.1.cell 0
    have r1 : w18.cell? ⟨w10.heap.size, 1, none⟩ = some (.slice AG L.length cG) := HVF2.out.2.2.2.1.cell 1
    have r2 : w18.cell? ⟨w5.heap.size, 0, none⟩ = some (.int .i64 nw) := HVF2.out.2.2.1.1.cell 0
    have r3 : w18.cell? ⟨w5.heap.size, 1, none⟩ = some (.slice AS L.length cS) := HVF2.out.2.2.1.1.cell 1
    have HE := Lib.hid (eqVers_same AG AS L cG cS nw w18 (by unfold maxLen; omega) HVF2.out.2.2.2.2.reads HVF2.out.2.2.1.2.reads)
    clear hkk hkk2
    go_wp2_with fail
    refine HE.out.mono ?_
    rintro e w19 ⟨rfl, hb19⟩
    have HVF3 := Lib.hid (HVF2.out.below hb19)
    clear HE r0 r1 r2 r3 HVF2 hb19
    have r0 : w19.cell? ⟨w10.heap.size, 0, none⟩ = some (.int .i64 nw) := HVF3.out.2.2.2.1.cell 0
    have r1 : w19.cell? ⟨w10.heap.size, 1, none⟩ = some (.slice AG L.length cG) := HVF3.out.2.2.2.1.cell 1
    have HMG := Lib.hid (markVers_any w9.heap.size AG cG L nw 1 w19 (by omega) (by omega) (by have := HVF3.out.2.2.2.1.lt; have := HN.out; omega) HVF3.out.2.2.2.2)
    go_wp2_with fail
    refine HMG.out.mono ?_
    rintro e w20 ⟨rfl, hM, hg20⟩
    have HVE := Lib.hid (HVF3.out.markG hg20 hM (by have := HN.out; omega) (fun j hj => by have := HLS.out j hj; have := HN.out; omega))
    clear hM hg20 HMG HVF3 r0 r1
    have r0 : w20.cell? ⟨w10.heap.size, 0, none⟩ = some (.int .i64 nw) := HVE.out.2.2.2.1.cell 0
    have r1 : w20.cell? ⟨w10.heap.size, 1, none⟩ = some (.slice AG L.length cG) := HVE.out.2.2.2.1.cell 1
    have HH := Lib.hid (fun W (hW : Sl encVer 4 W AG (mkV 1 L.length)) => heldVers_any AG cG L.length 1 nw W (by omega) (by omega) hW)
    generalize hmm : 1 + 4 * L.length = mm at *
    have hd4 : decide (((mm : Nat) : Int) < 0) = false := decide_eq_false (by omega)
    clear hmm
    go_wp2_with fail
    refine (HH.out w20 HVE.out.2.2.2.2).mono ?_
    rintro e w21 ⟨rfl, hb21⟩
    have HVE2 := Lib.hid (HVE.out.below hb21)
    clear HVE hb21 r0 r1
    have r2 : w21.cell? ⟨w.heap.size, 0, none⟩ = some (.int .i64 now) := HVE2.out.2.1.cell 0
    have r3 : w21.cell? ⟨w.heap.size, 1, none⟩ = some (.slice A l.length c) := HVE2.out.2.1.cell 1
    have HC5 := Lib.hid (toVers_any A l c now w21 hl2 (HRA.out.below HVE2.out.1))
    go_wp2_with fail
    refine HC5.out.mono ?_
    rintro e w22 ⟨va, rfl, hoa, hb22⟩
    obtain ⟨Aa2, ca2, rfl, _, _, hSa⟩ := hoa.sl
    have HVE3 := Lib.hid (HVE2.out.below hb22)
    clear HC5 HVE2 hb22 hoa r2 r3
    have HC6 := Lib.hid (toWriteS_any A2 ws c2 w22 hw2 (HRA2.out.below HVE3.out.1))
    go_wp2_with fail
    refine HC6.out.mono ?_
    rintro e w23 ⟨vb, rfl, hob, hb23⟩
    obtain ⟨Ab2, cb2, rfl, _, _, hSb⟩ := Sl.of_own encWri_len hob
    have HVE4 := Lib.hid (HVE3.out.below hb23)
    have HC7 := Lib.hid (implVersDo_any Aa2 Ab2 l ws ca2 cb2 now w23 hf hl2 hf2 hw2 (hSa.below hb23) hSb)
    rw [HR.out] at HC7
    clear HC6 HVE3 hb23 hob hSa hSb
    go_wp2_with fail
    refine HC7.out.mono ?_
    rintro e w24 ⟨vh, rfl, hoh, hb24⟩
    simp only at hoh ⊢
    obtain ⟨AH, cH, rfl, _, _, hSH⟩ := hoh.sl
    have hb25 := (Below.refl w24.heap.size w24).alloc (Nat.le_refl _) (.cells #[.int .i64 nw, .slice AH L.length cH] 25)
    have HVE5 := Lib.hid ((HVE4.out.below hb24).below hb25)
    have r0 : (w24.alloc (.cells #[.int .i64 nw, .slice AH L.length cH] 25)).cell? ⟨w5.heap.size, 0, none⟩ = some (.int .i64 nw) := HVE5.out.2.2.1.1.cell 0
    have r1 : (w24.alloc (.cells #[.int .i64 nw, .slice AH L.length cH] 25)).cell? ⟨w5.heap.size, 1, none⟩ = some (.slice AS L.length cS) := HVE5.out.2.2.1.1.cell 1
    have HE2 := Lib.hid (eqVers_same AH AS L cH cS nw (w24.alloc (.cells #[.int .i64 nw, .slice AH L.length cH] 25)) (by unfold maxLen; omega) (hSH.below hb25) HVE5.out.2.2.1.2.reads)
    clear HC7 HVE4 hb24 hb25 hoh hSH
    go_wp2_with fail
    generalize w24.alloc (.cells #[.int .i64 nw, .slice AH L.length cH] 25) = w25 at *
    refine HE2.out.mono ?_
    rintro e w26 ⟨rfl, hb26⟩
    have HVE6 := Lib.hid (HVE5.out.below hb26)
    clear HE2 HVE5 hb26 r0 r1
    have r0 : w26.cell? ⟨w10.heap.size, 0, none⟩ = some (.int .i64 nw) := HVE6.out.2.2.2.1.cell 0
    have r1 : w26.cell? ⟨w10.heap.size, 1, none⟩ = some (.slice AG L.length cG) := HVE6.out.2.2.2.1.cell 1
    go_wp2_with fail
    refine (HH.out w26 HVE6.out.2.2.2.2).mono ?_
    rintro e w27 ⟨rfl, hb27⟩
    have hend := bthen HVE6.out.1 hb27
    go_wp2
    go_ret
    exact ⟨rfl, hend⟩
theorem own0 : ownKnob Try.prog.godebug = none := by kernel_rfl
theorem laidOut0 : laidOutB Try.prog = true := by kernel_rfl
set_option maxRecDepth 100000 in
theorem exactVersDo_lifted (os : Os) (started : os.Started) (H : Type) (enc : TypeId × Value → H) :
    ReturnsInHanded {} Try.checked os 10 .any (Rows.fnExactVersDoSpec.pre6 enc Try.prog Try.f10 Rows.fnExactVersDoRow.domain false) (Rows.fnExactVersDoSpec.post enc Try.prog Try.f10 false true false false) := by
  refine returnsInHanded_of_change (C := Try.checked) own0 started (by kernel_rfl) Try.func10
    (ChangeSpec.witness6 (enc := enc) (C := Try.checked) false ⟨#[], #[.agg #[.int .i64 0, .slice none 0 0], .slice none 0 0], []⟩ 8 (by kernel_rfl) (by kernel_rfl) (by kernel_rfl) (by kernel_rfl)) ?_
  intro W base args ds gs before hval0 hW hcnd _
  have hval : ∀ (j : Nat) t v, Try.f10.params[j]? = some t → args[j]? = some v → Value.okWide Try.prog W .any base t v := hval0
  have hW' := hW
  obtain ⟨p, q, hA0, hV, rfl, hfz, hnd⟩ := hW
  have hA : DataW.TrodAll enc Try.prog W 0 (fun _ => true) true Try.f10.params.toList args.toList ds p := hA0
  rw [Try.params10] at hA hval
  obtain ⟨v0, vs0, d0, ds0, p0, q0, hargs, rfl, rfl, h0, r0⟩ := trodAll_cons hA
  obtain ⟨v1, vs1, d1, ds1, p1, q1, rfl, rfl, rfl, h1, r1⟩ := trodAll_cons r0
  obtain ⟨rfl, rfl, rfl⟩ := trodAll_nil r1
  obtain rfl : args = #[v0, v1] := by cases args; simp_all
  obtain ⟨rfl, rfl⟩ := trodVars_none hV
  have k0 := h0
  have k1 := h1
  have lt0 : ∀ x ∈ p0, x.block < W.heap.size := by obtain ⟨m, hm⟩ := k0; exact DataW.trod_lt m _ _ _ hm
  have lt1 : ∀ x ∈ p1, x.block < W.heap.size := by obtain ⟨m, hm⟩ := k1; exact DataW.trod_lt m _ _ _ hm
  obtain ⟨now, A, l, c, rfl, hf, hR⟩ := open_vers (hval 0 66 v0 rfl rfl) h0
  obtain ⟨A2, ws, c2, rfl, hf2, hR2⟩ := open_writes (hval 1 67 v1 rfl rfl) h1
  clear hA0 hval0
  refine (lawVersDo A A2 l ws c c2 now W hf hf2 hR hR2).mono fun e W' ⟨he, bel⟩ => ?_
  subst he
  exact ⟨_, rfl, _, _, _, [], _, [], hW', trodAll_mk1 (shut_bool Try.underlying4 _), (trodAll_cons_mk (Below.trod laidOut0 (by kernel_rfl) (of_decide_eq_true (by kernel_rfl)) k0 bel lt0) (trodAll_cons_mk (Below.trod laidOut0 (by kernel_rfl) (of_decide_eq_true (by kernel_rfl)) k1 bel lt1) trodAll_mk0)), rfl, bel.frame _, fun h => by cases h⟩

theorem exactVersDo_holds : Rows.FnExactVersDoSaid :=
  OpenClaim.holds_of_wide 10 Try.f10 rfl rfl rfl rfl rfl rfl rfl ⟨rfl, rfl, rfl, rfl, rfl⟩ rfl rfl rfl rfl rfl (by kernel_rfl) Try.func10 (by kernel_rfl)
    (of_decide_eq_true (by kernel_rfl)) (by unfold Func.isWrapper; first | (rw [if_pos (by decide +kernel)]; kernel_rfl) | (rw [if_neg (by decide +kernel)]; exact ⟨rfl, rfl⟩))
    (fun os started H enc _ => exactVersDo_lifted os started H enc)
#print axioms exactVersDo_holds
end Go.Proofs.Ytfmpohhaimgnfaa
