import Derived.Test.YtfmhhckkpenldaaGreatDoorM22
import Derived.Test.YtfmhhckkpenldaaGreatDoorM05
import Derived.Test.YtfmhhckkpenldaaGreatDoorM02
/- The bundle of KpB where letters are appended to a row of one's own. -/
namespace Go.Proofs.YtfmhhckkpenldaaGreatDoor
open Go.RowKit
/-- blocks that are no boxes, and hold no letters, stay -/
def KpT (W W' : World) : Prop := W.heap.size ≤ W'.heap.size ∧ ∀ b cs t, Blk W b t cs → t ∉ boxT → t ≠ 31 → Blk W' b t cs
def KL (P : World → Prop) : Prop := ∀ W W' : World, KpT W W' → P W → P W'
theorem SlK.kpT {α : Type} {enc : α → List Value} {k : Nat} {t : TypeId} {w w' : World} {A : Option Addr} {l : List α} (h : SlK enc k t w A l) (hk : KpT w w') (ht : t ∉ boxT) (hn : t ≠ 31) : SlK enc k t w' A l := fun hl => by
  obtain ⟨b, o, cs, e, hb, hc⟩ := h hl
  exact ⟨b, o, cs, e, hk.2 _ _ _ hb ht hn, hc⟩
theorem VK.l {now : Int} {A : Option Addr} {l : List Ver} : KL (fun W => VK W now A l) := fun _ _ hk h => ⟨h.1.kpT hk (by decide) (by decide), h.2⟩
theorem WK.l {A : Option Addr} {l : List Wri} : KL (fun W => WK W A l) := fun _ _ hk h => ⟨h.1.kpT hk (by decide) (by decide), h.2⟩
theorem NK.l {A : Option Addr} {l : List Nm} : KL (fun W => NK W A l) := fun _ _ hk h => ⟨h.1.kpT hk (by decide) (by decide), h.2⟩
theorem RK.l {A : Option Addr} {l : List Row} {c : Nat} : KL (fun W => RK W A l c) := fun _ _ hk h => ⟨h.1.kpT hk (by decide) (by decide), h.2⟩
/-- a row of letters grew: no other block of old memory did -/
theorem kpT_own {w w' : World} {B n : Nat} {v : Value} {xs : List Value} (h : w.ownsRow B 31 2 v n xs) (hg : w.grownBy w' v.ownBlock) : KpT w w' := by
  refine ⟨hg.size, fun b cs t hb _ hn => hb.grown hg ?_⟩
  rcases h.2 with ⟨e, h0⟩ | ⟨g, cap, cur, e, hB, hh, r⟩
  · rw [e]; simp [Value.ownBlock]
  · rw [e]
    intro e2
    simp [Value.ownBlock] at e2
    subst e2
    unfold Blk at hb
    rw [hh] at hb
    injection hb with hb
    injection hb with e1 e3
    exact hn e3.symm
theorem own_ge {w : World} {B n k : Nat} {e : TypeId} {v : Value} {xs : List Value} (h : w.ownsRow B e k v n xs) {j : Nat} (hj : v.ownBlock = some j) : B ≤ j := by
  rcases h.2 with ⟨e, h0⟩ | ⟨g, cap, cur, e, hB, hh, r⟩
  · rw [e] at hj; simp [Value.ownBlock] at hj
  · rw [e] at hj; simp [Value.ownBlock] at hj; omega
theorem SP.grownO {w W W' : World} {L : List (Nat × TypeId × Array Value)} {Ps : List (World → Prop)} (h : SP w L Ps W) {B n : Nat} {v : Value} {xs : List Value} (ho : W.ownsRow B 31 2 v n xs) (hg : W.grownBy W' v.ownBlock) (hB : ∀ b ∈ L, b.1 < B) (hw : w.heap.size ≤ B) (hP : ∀ P ∈ Ps, KL P) : SP w L Ps W' :=
  ⟨⟨fun b hm => ⟨(h.1.1 b hm).1, (h.1.1 b hm).2.grown hg (fun e => by have := own_ge ho e.symm; have := hB b hm; omega)⟩, h.1.2.1, h.1.2.2.grown hg h.1.2.2.size (fun j hj => by have := own_ge ho hj; omega)⟩, fun P hm => ⟨(h.2 P hm).1, hP P hm _ _ (kpT_own ho hg) (h.2 P hm).2⟩⟩
theorem SD.grownO {w0 w W W' : World} {A : Option Addr} {bs : List UInt8} {c g q : Nat} {L : List (Nat × TypeId × Array Value)} {Ps : List (World → Prop)} (h : SD w0 A bs c g q w L Ps W) {B n : Nat} {v : Value} {xs : List Value} (ho : W.ownsRow B 31 2 v n xs) (hg : W.grownBy W' v.ownBlock) (hB : ∀ b ∈ L, b.1 < B) (hw : w.heap.size ≤ B) (hP : ∀ P ∈ Ps, KL P) : SD w0 A bs c g q w L Ps W' :=
  ⟨⟨fun b hm => ⟨(h.1.1 b hm).1, (h.1.1 b hm).2.grown hg (fun e => by have := own_ge ho e.symm; have := hB b hm; omega)⟩, h.1.2⟩, fun P hm => ⟨(h.2.1 P hm).1, hP P hm _ _ (kpT_own ho hg) (h.2.1 P hm).2⟩, h.rd.own hg (fun j hj => by have := own_ge ho hj; have := h.2.2.2.2; omega), gr_own h.gr hg (fun j hj => by have := own_ge ho hj; omega), h.2.2.2.2⟩
end Go.Proofs.YtfmhhckkpenldaaGreatDoor
/- Whole boxes stored. -/
namespace Go.Proofs.YtfmhhckkpenldaaGreatDoor
open Go.RowKit
def setFrom (cs : Array Value) : Nat → List Value → Array Value
  | _, [] => cs
  | i, u :: us => setFrom (cs.setIfInBounds i u) (i + 1) us
def storeFrom (W : World) (a : Nat) : Nat → List Value → World
  | _, [] => W
  | i, u :: us => storeFrom (W.setCell ⟨a, i, none⟩ u) a (i + 1) us
theorem set_set_box (L : List (Nat × TypeId × Array Value)) (j : Nat) (x y : Nat × TypeId × Array Value) : (L.set j x).set j y = L.set j y := List.set_set ..
theorem get_set_box (L : List (Nat × TypeId × Array Value)) (j : Nat) (x y : Nat × TypeId × Array Value) (h : L[j]? = some y) : (L.set j x)[j]? = some x := by
  obtain ⟨hl, _⟩ := List.getElem?_eq_some_iff.1 h
  exact List.getElem?_set_self hl
theorem set_same_box (L : List (Nat × TypeId × Array Value)) (j : Nat) (y : Nat × TypeId × Array Value) (h : L[j]? = some y) : L.set j y = L := by
  obtain ⟨hl, e⟩ := List.getElem?_eq_some_iff.1 h
  rw [← e]; exact List.set_getElem_self hl
theorem SP.setAll {w : World} {Ps : List (World → Prop)} {j a : Nat} {t : TypeId} (ht : t ∈ boxT) : ∀ (us : List Value) (i : Nat) {W : World} {L : List (Nat × TypeId × Array Value)} {cs : Array Value}, SP w L Ps W → L[j]? = some (a, t, cs) → SP w (L.set j (a, t, setFrom cs i us)) Ps (storeFrom W a i us)
  | [], i, W, L, cs, h, hj => by simpa [setFrom, storeFrom, set_same_box L j _ hj] using h
  | u :: us, i, W, L, cs, h, hj => by
    have h1 := SP.setAll ht us (i + 1) (h.set j i u hj ht) (get_set_box L j _ _ hj)
    rw [set_set_box] at h1
    exact h1
theorem SD.setAll {w0 w : World} {A : Option Addr} {bs : List UInt8} {c g q : Nat} {Ps : List (World → Prop)} {j a : Nat} {t : TypeId} (ht : t ∈ boxT) : ∀ (us : List Value) (i : Nat) {W : World} {L : List (Nat × TypeId × Array Value)} {cs : Array Value}, SD w0 A bs c g q w L Ps W → L[j]? = some (a, t, cs) → SD w0 A bs c g q w (L.set j (a, t, setFrom cs i us)) Ps (storeFrom W a i us)
  | [], i, W, L, cs, h, hj => by simpa [setFrom, storeFrom, set_same_box L j _ hj] using h
  | u :: us, i, W, L, cs, h, hj => by
    have h1 := SD.setAll ht us (i + 1) (h.set j i u hj ht) (get_set_box L j _ _ hj)
    rw [set_set_box] at h1
    exact h1
theorem SP.put2 {w W : World} {L : List (Nat × TypeId × Array Value)} {Ps : List (World → Prop)} (h : SP w L Ps W) (j : Nat) (u0 u1 : Value) {a : Nat} {t : TypeId} {c0 c1 : Value} (hj : L[j]? = some (a, t, #[c0, c1])) (ht : t ∈ boxT) : SP w (L.set j (a, t, #[u0, u1])) Ps ((W.setCell ⟨a, 0, none⟩ u0).setCell ⟨a, 1, none⟩ u1) := by
  have h1 := SP.setAll ht [u0, u1] 0 h hj
  simpa [setFrom, storeFrom] using h1
theorem SP.put8 {w W : World} {L : List (Nat × TypeId × Array Value)} {Ps : List (World → Prop)} (h : SP w L Ps W) (j : Nat) (u0 u1 u2 u3 u4 u5 u6 u7 : Value) {a : Nat} {t : TypeId} {c0 c1 c2 c3 c4 c5 c6 c7 : Value} (hj : L[j]? = some (a, t, #[c0, c1, c2, c3, c4, c5, c6, c7])) (ht : t ∈ boxT) : SP w (L.set j (a, t, #[u0, u1, u2, u3, u4, u5, u6, u7])) Ps ((((((((W.setCell ⟨a, 0, none⟩ u0).setCell ⟨a, 1, none⟩ u1).setCell ⟨a, 2, none⟩ u2).setCell ⟨a, 3, none⟩ u3).setCell ⟨a, 4, none⟩ u4).setCell ⟨a, 5, none⟩ u5).setCell ⟨a, 6, none⟩ u6).setCell ⟨a, 7, none⟩ u7) := by
  have h1 := SP.setAll ht [u0, u1, u2, u3, u4, u5, u6, u7] 0 h hj
  simpa [setFrom, storeFrom] using h1
theorem SD.put2 {w0 w W : World} {A : Option Addr} {bs : List UInt8} {c g q : Nat} {L : List (Nat × TypeId × Array Value)} {Ps : List (World → Prop)} (h : SD w0 A bs c g q w L Ps W) (j : Nat) (u0 u1 : Value) {a : Nat} {t : TypeId} {k0 k1 : Value} (hj : L[j]? = some (a, t, #[k0, k1])) (ht : t ∈ boxT) : SD w0 A bs c g q w (L.set j (a, t, #[u0, u1])) Ps ((W.setCell ⟨a, 0, none⟩ u0).setCell ⟨a, 1, none⟩ u1) := by
  have h1 := SD.setAll ht [u0, u1] 0 h hj
  simpa [setFrom, storeFrom] using h1
theorem SD.put8 {w0 w W : World} {A : Option Addr} {bs : List UInt8} {c g q : Nat} {L : List (Nat × TypeId × Array Value)} {Ps : List (World → Prop)} (h : SD w0 A bs c g q w L Ps W) (j : Nat) (u0 u1 u2 u3 u4 u5 u6 u7 : Value) {a : Nat} {t : TypeId} {k0 k1 k2 k3 k4 k5 k6 k7 : Value} (hj : L[j]? = some (a, t, #[k0, k1, k2, k3, k4, k5, k6, k7])) (ht : t ∈ boxT) : SD w0 A bs c g q w (L.set j (a, t, #[u0, u1, u2, u3, u4, u5, u6, u7])) Ps ((((((((W.setCell ⟨a, 0, none⟩ u0).setCell ⟨a, 1, none⟩ u1).setCell ⟨a, 2, none⟩ u2).setCell ⟨a, 3, none⟩ u3).setCell ⟨a, 4, none⟩ u4).setCell ⟨a, 5, none⟩ u5).setCell ⟨a, 6, none⟩ u6).setCell ⟨a, 7, none⟩ u7) := by
  have h1 := SD.setAll ht [u0, u1, u2, u3, u4, u5, u6, u7] 0 h hj
  simpa [setFrom, storeFrom] using h1
end Go.Proofs.YtfmhhckkpenldaaGreatDoor
/- The reference's step. -/
namespace Go.Proofs.YtfmhhckkpenldaaGreatDoor
open Go.RowKit
set_option maxRecDepth 100000 in
set_option maxHeartbeats 8000000 in
theorem l9Step_any (st : Int) (x : Let) (w : World) (hs : x.2.size ≤ 1048576) (hst : st = 0 ∨ st = 1 ∨ st = 2 ∨ st = 3) :
    Calls Tryz.prog 20 #[.int .i64 st, .agg #[.string x.1, .string x.2]] w fun e w' => e = .returned (.int .i64 (stepS st x)) ∧ Below w.heap.size w w' := by
  obtain ⟨x1, x2⟩ := x
  simp only at hs ⊢
  have hb0 := (Below.refl w.heap.size w).alloc (Nat.le_refl _) (.cells #[.string x1, .string x2] 31)
  have HX := Lib.hid (Blk.new w 31 #[.string x1, .string x2])
  rcases hst with rfl | rfl | rfl | rfl
  · have HS := Lib.hid (show stepS 0 (x1, x2) = idleS (x1, x2) from rfl)
    cases hA : (x1.toList == [82])
    · cases hC : (x1.toList == [67])
      · have hr : rowsS (x1, x2) = 3 := by unfold rowsS; simp [hA, hC]
        have HV := Lib.hid (show idleS (x1, x2) = if (x1.toList == [69]) = true then (if failW x2 = true then 0 else 3)
          else if (x1.toList == [49]) = true then (if (x2.toList == []) = true then 0 else 3)
          else if (x1.toList == [90]) = true then (if (x2.toList == [105]) = true ∨ (x2.toList == [116]) = true ∨ (x2.toList == [101]) = true then 0 else 3)
          else if (x1.toList == [66]) = true then (if (x2.toList == []) = true then 2 else 3)
          else 3 by unfold idleS; rw [if_pos hr])
        clear hr
        go_enter Tryz.func20, Tryz.ntmps20
        go_wp2_with fail
        generalize w.alloc (.cells #[.string x1, .string x2] 31) = w0 at *
        have hbw := hb0
        have hXw := HX.out
        refine wp_region_below (by kernel_rfl) (by kernel_rfl) ?_
        iterate 10 (first | go_big_quiet_skip | (refine wpQuiet_step (fun K hK => ?_); go_simp; first | (apply Exists.intro; refine ⟨fun W hW => ?_, hK _ ?_⟩; (first | rfl | (have hX2 := hXw.kept hW; have e0 := hX2.at_ (i := 0) (by simp); have e1 := hX2.at_ (i := 1) (by simp); go_simp; rfl)); clear hK K) | (refine hK _ ?_; clear hK K)))
        refine wpQuiet_nil ?_
        intro W hW
        have hbw2 := hbw.trans (hW.mono hbw.size)
        have hX2 := hXw.kept hW
        have r0 := hX2.at_ (i := 0) (by simp)
        have r1 := hX2.at_ (i := 1) (by simp)
        clear hbw hXw hW
        go_wp2_with ((go_at_call 41; refine (word_any x2 _).mono ?_; rintro e w3 ⟨rfl, hb3⟩; have hX3 := hX2.kept hb3; have q0 := hX3.at_ (i := 0) (by simp); have q1 := hX3.at_ (i := 1) (by simp)))
        all_goals
          go_ret
          refine ⟨ret_int (by rw [HS.out, HV.out]; clear HS HV HX; simp_all), ?_⟩
          first | exact hbw2.trans (hb3.mono hbw2.size) | exact hbw2
      · cases hF : (x2.toList == (codeN 0).toList)
        · have hr : rowsS (x1, x2) = 3 := by unfold rowsS; simp [hA, hC, hF]
          have HV := Lib.hid (show idleS (x1, x2) = if (x1.toList == [69]) = true then (if failW x2 = true then 0 else 3)
            else if (x1.toList == [49]) = true then (if (x2.toList == []) = true then 0 else 3)
            else if (x1.toList == [90]) = true then (if (x2.toList == [105]) = true ∨ (x2.toList == [116]) = true ∨ (x2.toList == [101]) = true then 0 else 3)
            else if (x1.toList == [66]) = true then (if (x2.toList == []) = true then 2 else 3)
            else 3 by unfold idleS; rw [if_pos hr])
          clear hr
          go_enter Tryz.func20, Tryz.ntmps20
          go_wp2_with fail
          generalize w.alloc (.cells #[.string x1, .string x2] 31) = w0 at *
          have hbw := hb0
          have hXw := HX.out
          refine wp_region_below (by kernel_rfl) (by kernel_rfl) ?_
          iterate 10 (refine wpQuiet_step (fun K hK => ?_); go_simp; first | (apply Exists.intro; refine ⟨fun W hW => ?_, hK _ ?_⟩; (first | rfl | (go_at_call 40; exact quiet_call hW (Nat.le_refl _) (code_any 0 _ (by omega))) | (have hX2 := hXw.kept hW; have e0 := hX2.at_ (i := 0) (by simp); have e1 := hX2.at_ (i := 1) (by simp); go_simp; rfl)); clear hK K) | (refine hK _ ?_; clear hK K))
          refine wpQuiet_nil ?_
          intro W hW
          have hbw2 := hbw.trans (hW.mono hbw.size)
          have hX2 := hXw.kept hW
          have r0 := hX2.at_ (i := 0) (by simp)
          have r1 := hX2.at_ (i := 1) (by simp)
          clear hbw hXw hW
          have hC' : x1.toList = [67] := by simpa using hC
          go_wp2_with ((go_at_call 41; refine (word_any x2 _).mono ?_; rintro e w3 ⟨rfl, hb3⟩; have hX3 := hX2.kept hb3; have q0 := hX3.at_ (i := 0) (by simp); have q1 := hX3.at_ (i := 1) (by simp)))
          all_goals
            go_ret
            refine ⟨ret_int (by rw [HS.out, HV.out]; clear HS HV HX; simp_all), ?_⟩
            first | exact hbw2.trans (hb3.mono hbw2.size) | exact hbw2
        · have hr : rowsS (x1, x2) = 0 := by unfold rowsS; simp [hA, hC, hF]
          have HV := Lib.hid (show idleS (x1, x2) = 0 by unfold idleS; rw [hr]; rfl)
          clear hr
          go_enter Tryz.func20, Tryz.ntmps20
          go_wp2_with fail
          generalize w.alloc (.cells #[.string x1, .string x2] 31) = w0 at *
          have hbw := hb0
          have hXw := HX.out
          refine wp_region_below (by kernel_rfl) (by kernel_rfl) ?_
          iterate 10 (refine wpQuiet_step (fun K hK => ?_); go_simp; first | (apply Exists.intro; refine ⟨fun W hW => ?_, hK _ ?_⟩; (first | rfl | (go_at_call 40; exact quiet_call hW (Nat.le_refl _) (code_any 0 _ (by omega))) | (have hX2 := hXw.kept hW; have e0 := hX2.at_ (i := 0) (by simp); have e1 := hX2.at_ (i := 1) (by simp); go_simp; rfl)); clear hK K) | (refine hK _ ?_; clear hK K))
          refine wpQuiet_nil ?_
          intro W hW
          have hbw2 := hbw.trans (hW.mono hbw.size)
          have hX2 := hXw.kept hW
          have r0 := hX2.at_ (i := 0) (by simp)
          have r1 := hX2.at_ (i := 1) (by simp)
          clear hbw hXw hW
          go_wp2
          go_ret
          exact ⟨ret_int (by rw [HS.out, HV.out]), hbw2⟩
    · have hA' : x1.toList = [82] := by simpa using hA
      cases hg : rowG x2
      · have hr : rowsS (x1, x2) = 3 := by unfold rowsS; simp [hA', hg]
        have HV := Lib.hid (show idleS (x1, x2) = if (x1.toList == [69]) = true then (if failW x2 = true then 0 else 3)
          else if (x1.toList == [49]) = true then (if (x2.toList == []) = true then 0 else 3)
          else if (x1.toList == [90]) = true then (if (x2.toList == [105]) = true ∨ (x2.toList == [116]) = true ∨ (x2.toList == [101]) = true then 0 else 3)
          else if (x1.toList == [66]) = true then (if (x2.toList == []) = true then 2 else 3)
          else 3 by unfold idleS; rw [if_pos hr])
        clear hr
        go_enter Tryz.func20, Tryz.ntmps20
        go_wp2_with ((go_at_call 39; refine (l9Row_any x2 _ hs).mono ?_; rintro e w1 ⟨rfl, hb1⟩; rw [hg]; have hX1 := HX.out.kept hb1; have y0 := hX1.at_ (i := 0) (by simp); have y1 := hX1.at_ (i := 1) (by simp)))
        have hbw := hb0.trans (hb1.mono (by simp))
        have hXw := hX1
        refine wp_region_below (by kernel_rfl) (by kernel_rfl) ?_
        iterate 10 (first | go_big_quiet_skip | (refine wpQuiet_step (fun K hK => ?_); go_simp; first | (apply Exists.intro; refine ⟨fun W hW => ?_, hK _ ?_⟩; (first | rfl | (have hX2 := hXw.kept hW; have e0 := hX2.at_ (i := 0) (by simp); have e1 := hX2.at_ (i := 1) (by simp); go_simp; rfl)); clear hK K) | (refine hK _ ?_; clear hK K)))
        refine wpQuiet_nil ?_
        intro W hW
        have hbw2 := hbw.trans (hW.mono hbw.size)
        have hX2 := hXw.kept hW
        have r0 := hX2.at_ (i := 0) (by simp)
        have r1 := hX2.at_ (i := 1) (by simp)
        clear hbw hXw hW
        go_wp2_with ((go_at_call 41; refine (word_any x2 _).mono ?_; rintro e w3 ⟨rfl, hb3⟩; have hX3 := hX2.kept hb3; have q0 := hX3.at_ (i := 0) (by simp); have q1 := hX3.at_ (i := 1) (by simp)))
        all_goals
          go_ret
          refine ⟨ret_int (by rw [HS.out, HV.out]; clear HS HV HX; simp_all), ?_⟩
          first | exact hbw2.trans (hb3.mono hbw2.size) | exact hbw2
      · have hr : rowsS (x1, x2) = 1 := by unfold rowsS; simp [hA', hg]
        have HV := Lib.hid (show idleS (x1, x2) = 1 by unfold idleS; rw [hr]; rfl)
        clear hr
        go_enter Tryz.func20, Tryz.ntmps20
        go_wp2_with ((go_at_call 39; refine (l9Row_any x2 _ hs).mono ?_; rintro e w1 ⟨rfl, hb1⟩; rw [hg]; have hX1 := HX.out.kept hb1; have y0 := hX1.at_ (i := 0) (by simp); have y1 := hX1.at_ (i := 1) (by simp)))
        go_ret
        exact ⟨ret_int (by rw [HS.out, HV.out]), hb0.trans (hb1.mono (by simp))⟩
  · have HS := Lib.hid (show stepS 1 (x1, x2) = rowsS (x1, x2) from rfl)
    cases hA : (x1.toList == [82])
    · cases hC : (x1.toList == [67])
      · have hr : rowsS (x1, x2) = 3 := by unfold rowsS; simp [hA, hC]
        have HV := Lib.hid hr
        clear hr
        go_enter Tryz.func20, Tryz.ntmps20
        go_wp2_with fail
        generalize w.alloc (.cells #[.string x1, .string x2] 31) = w0 at *
        have hbw := hb0
        have hXw := HX.out
        refine wp_region_below (by kernel_rfl) (by kernel_rfl) ?_
        iterate 10 (first | go_big_quiet_skip | (refine wpQuiet_step (fun K hK => ?_); go_simp; first | (apply Exists.intro; refine ⟨fun W hW => ?_, hK _ ?_⟩; (first | rfl | (have hX2 := hXw.kept hW; have e0 := hX2.at_ (i := 0) (by simp); have e1 := hX2.at_ (i := 1) (by simp); go_simp; rfl)); clear hK K) | (refine hK _ ?_; clear hK K)))
        refine wpQuiet_nil ?_
        intro W hW
        have hbw2 := hbw.trans (hW.mono hbw.size)
        have hX2 := hXw.kept hW
        have r0 := hX2.at_ (i := 0) (by simp)
        have r1 := hX2.at_ (i := 1) (by simp)
        clear hbw hXw hW
        go_wp2
        go_ret
        exact ⟨ret_int (by rw [HS.out, HV.out]), hbw2⟩
      · cases hF : (x2.toList == (codeN 0).toList)
        · have hr : rowsS (x1, x2) = 3 := by unfold rowsS; simp [hA, hC, hF]
          have HV := Lib.hid hr
          clear hr
          go_enter Tryz.func20, Tryz.ntmps20
          go_wp2_with fail
          generalize w.alloc (.cells #[.string x1, .string x2] 31) = w0 at *
          have hbw := hb0
          have hXw := HX.out
          refine wp_region_below (by kernel_rfl) (by kernel_rfl) ?_
          iterate 10 (refine wpQuiet_step (fun K hK => ?_); go_simp; first | (apply Exists.intro; refine ⟨fun W hW => ?_, hK _ ?_⟩; (first | rfl | (go_at_call 40; exact quiet_call hW (Nat.le_refl _) (code_any 0 _ (by omega))) | (have hX2 := hXw.kept hW; have e0 := hX2.at_ (i := 0) (by simp); have e1 := hX2.at_ (i := 1) (by simp); go_simp; rfl)); clear hK K) | (refine hK _ ?_; clear hK K))
          refine wpQuiet_nil ?_
          intro W hW
          have hbw2 := hbw.trans (hW.mono hbw.size)
          have hX2 := hXw.kept hW
          have r0 := hX2.at_ (i := 0) (by simp)
          have r1 := hX2.at_ (i := 1) (by simp)
          clear hbw hXw hW
          go_wp2
          go_ret
          exact ⟨ret_int (by rw [HS.out, HV.out]), hbw2⟩
        · have hr : rowsS (x1, x2) = 0 := by unfold rowsS; simp [hA, hC, hF]
          have HV := Lib.hid hr
          clear hr
          go_enter Tryz.func20, Tryz.ntmps20
          go_wp2_with fail
          generalize w.alloc (.cells #[.string x1, .string x2] 31) = w0 at *
          have hbw := hb0
          have hXw := HX.out
          refine wp_region_below (by kernel_rfl) (by kernel_rfl) ?_
          iterate 10 (refine wpQuiet_step (fun K hK => ?_); go_simp; first | (apply Exists.intro; refine ⟨fun W hW => ?_, hK _ ?_⟩; (first | rfl | (go_at_call 40; exact quiet_call hW (Nat.le_refl _) (code_any 0 _ (by omega))) | (have hX2 := hXw.kept hW; have e0 := hX2.at_ (i := 0) (by simp); have e1 := hX2.at_ (i := 1) (by simp); go_simp; rfl)); clear hK K) | (refine hK _ ?_; clear hK K))
          refine wpQuiet_nil ?_
          intro W hW
          have hbw2 := hbw.trans (hW.mono hbw.size)
          have hX2 := hXw.kept hW
          have r0 := hX2.at_ (i := 0) (by simp)
          have r1 := hX2.at_ (i := 1) (by simp)
          clear hbw hXw hW
          go_wp2
          go_ret
          exact ⟨ret_int (by rw [HS.out, HV.out]), hbw2⟩
    · have hA' : x1.toList = [82] := by simpa using hA
      cases hg : rowG x2
      · have hr : rowsS (x1, x2) = 3 := by unfold rowsS; simp [hA', hg]
        have HV := Lib.hid hr
        clear hr
        go_enter Tryz.func20, Tryz.ntmps20
        go_wp2_with ((go_at_call 39; refine (l9Row_any x2 _ hs).mono ?_; rintro e w1 ⟨rfl, hb1⟩; rw [hg]; have hX1 := HX.out.kept hb1; have y0 := hX1.at_ (i := 0) (by simp); have y1 := hX1.at_ (i := 1) (by simp)))
        have hbw := hb0.trans (hb1.mono (by simp))
        have hXw := hX1
        refine wp_region_below (by kernel_rfl) (by kernel_rfl) ?_
        iterate 10 (first | go_big_quiet_skip | (refine wpQuiet_step (fun K hK => ?_); go_simp; first | (apply Exists.intro; refine ⟨fun W hW => ?_, hK _ ?_⟩; (first | rfl | (have hX2 := hXw.kept hW; have e0 := hX2.at_ (i := 0) (by simp); have e1 := hX2.at_ (i := 1) (by simp); go_simp; rfl)); clear hK K) | (refine hK _ ?_; clear hK K)))
        refine wpQuiet_nil ?_
        intro W hW
        have hbw2 := hbw.trans (hW.mono hbw.size)
        have hX2 := hXw.kept hW
        have r0 := hX2.at_ (i := 0) (by simp)
        have r1 := hX2.at_ (i := 1) (by simp)
        clear hbw hXw hW
        go_wp2
        go_ret
        exact ⟨ret_int (by rw [HS.out, HV.out]), hbw2⟩
      · have hr : rowsS (x1, x2) = 1 := by unfold rowsS; simp [hA', hg]
        have HV := Lib.hid hr
        clear hr
        go_enter Tryz.func20, Tryz.ntmps20
        go_wp2_with ((go_at_call 39; refine (l9Row_any x2 _ hs).mono ?_; rintro e w1 ⟨rfl, hb1⟩; rw [hg]; have hX1 := HX.out.kept hb1; have y0 := hX1.at_ (i := 0) (by simp); have y1 := hX1.at_ (i := 1) (by simp)))
        go_ret
        exact ⟨ret_int (by rw [HS.out, HV.out]), hb0.trans (hb1.mono (by simp))⟩
  · go_enter Tryz.func20, Tryz.ntmps20
    go_wp2
    go_ret
    exact ⟨rfl, hb0⟩
  · go_enter Tryz.func20, Tryz.ntmps20
    go_wp2
    go_ret
    exact ⟨rfl, hb0⟩
end Go.Proofs.YtfmhhckkpenldaaGreatDoor
/- The two GramStep and the two GramAll. -/
namespace Go.Proofs.YtfmhhckkpenldaaGreatDoor
open Go.RowKit
theorem stepG_out {st : Int} (h0 : st ≠ 0) (h1 : st ≠ 1) (x : Let) : stepG st x = 3 := by
  unfold stepG
  rw [if_neg h0, if_neg h1]
  split <;> rfl
set_option maxHeartbeats 1000000 in
theorem specStep_any (st : Int) (x : Let) (w : World) (h1 : x.1.size ≤ maxLen) (h2 : x.2.size ≤ 1048576) :
    Calls Tryz.prog 10 #[.int .i64 st, .agg #[.string x.1, .string x.2]] w fun e w' => e = .returned (.int .i64 (stepG st x)) ∧ Below w.heap.size w w' := by
  obtain ⟨x1, x2⟩ := x
  simp only at h1 h2 ⊢
  have h2' : x2.size ≤ maxLen := by unfold maxLen; omega
  have hb0 := (Below.refl w.heap.size w).alloc (Nat.le_refl _) (.cells #[.string x1, .string x2] 31)
  have HX := Lib.hid (Blk.new w 31 #[.string x1, .string x2])
  by_cases a : st < 0
  · have HG := Lib.hid (show stepG st (x1, x2) = 3 from stepG_out (by omega) (by omega) _)
    have da : decide (st < 0) = true := decide_eq_true a
    clear a
    go_enter Tryz.func10, Tryz.ntmps10
    go_wp2
    go_ret
    exact ⟨ret_int HG.out.symm, hb0⟩
  have da : decide (st < 0) = false := decide_eq_false a
  by_cases b : 3 < st
  · have HG := Lib.hid (show stepG st (x1, x2) = 3 from stepG_out (by omega) (by omega) _)
    have db : decide (3 < st) = true := decide_eq_true b
    clear a b
    go_enter Tryz.func10, Tryz.ntmps10
    go_wp2
    go_ret
    exact ⟨ret_int HG.out.symm, hb0⟩
  have db : decide (3 < st) = false := decide_eq_false b
  have hst : st = 0 ∨ st = 1 ∨ st = 2 ∨ st = 3 := by omega
  cases hl : letB (x1, x2)
  · have HG := Lib.hid (show stepG st (x1, x2) = 3 by unfold stepG; rw [hl]; rfl)
    clear a b hst
    go_enter Tryz.func10, Tryz.ntmps10
    go_wp2_with (go_at_call 19; refine (specOk_any (x1, x2) _ h1 h2').mono ?_; rintro e w1 ⟨rfl, hb1⟩; rw [hl])
    go_ret
    exact ⟨ret_int HG.out.symm, hb0.trans (hb1.mono (by simp))⟩
  · have HG := Lib.hid (show stepG st (x1, x2) = stepS st (x1, x2) by unfold stepG; rw [hl]; rfl)
    have HST := Lib.hid hst
    clear a b hst
    go_enter Tryz.func10, Tryz.ntmps10
    go_wp2_with (first
      | (go_at_call 19; refine (specOk_any (x1, x2) _ h1 h2').mono ?_; rintro e w1 ⟨rfl, hb1⟩; rw [hl]; have hX1 := HX.out.kept hb1; have y0 := hX1.at_ (i := 0) (by simp); have y1 := hX1.at_ (i := 1) (by simp))
      | (go_at_call 20; refine (l9Step_any st (x1, x2) _ h2 HST.out).mono ?_; rintro e w2 ⟨rfl, hb2⟩))
    go_ret
    exact ⟨ret_int HG.out.symm, (hb0.trans (hb1.mono (by simp))).trans (hb2.mono (by have := hb1.size; simp at this; omega))⟩
/-- how it stands behind letters -/
def gramL (l : List Let) : Int := l.foldl stepG 0
theorem gramL_take (l : List Let) (k : Nat) (h : k < l.length) : gramL (l.take (k + 1)) = stepG (gramL (l.take k)) l[k] := by
  unfold gramL; rw [List.take_succ_eq_append_getElem h, List.foldl_append]; rfl
def SmallL (l : List Let) : Prop := l.length ≤ 1048576 ∧ ∀ x ∈ l, x.1.size ≤ 1048576 ∧ x.2.size ≤ 1048576
set_option maxHeartbeats 1000000 in
theorem specGramAll_any (A : Option Addr) (l : List Let) (c : Nat) (w : World) (hl : SmallL l) (hR : Sl encLet 2 w A l) :
    Calls Tryz.prog 6 #[.slice A l.length c] w fun e w' => e = .returned (.int .i64 (gramL l)) ∧ Below w.heap.size w w' := by
  obtain ⟨hn, hx⟩ := hl
  go_enter Tryz.func6, Tryz.ntmps6
  go_wp2
  go_loopw [3, 4] (fun s i wr => ∃ k : Nat, k ≤ l.length ∧ i = .int .i64 k ∧ s = .int .i64 (gramL (l.take k)) ∧ Below w.heap.size w wr) (fun _ i _ => l.length - (intOf i).toNat)
  case atStart => exact ⟨0, by omega, rfl, rfl, Below.refl _ _⟩
  case round =>
    obtain ⟨k, hk, rfl, rfl, hb⟩ := hrel
    by_cases hlt : k < l.length
    · obtain ⟨b, o, rfl, hbl, c0, c1⟩ := Sl.at2 (hR.below hb) hlt
      have HG := Lib.hid (gramL_take l k hlt)
      obtain ⟨hx1, hx2⟩ := hx l[k] (by simp)
      have hx1' : l[k].1.size ≤ maxLen := by unfold maxLen; omega
      generalize l[k] = x at *
      generalize gramL (l.take k) = g at *
      clear hR hx
      go_wp2_with (go_at_call 10; refine (specStep_any g x _ hx1' hx2).mono ?_; rintro e w2 ⟨rfl, hb2⟩)
      go_roundw
      case rel => exact ⟨k + 1, by omega, by go_num, by rw [HG.out], bthen hb hb2⟩
      case measure => simp [intOf]; omega
    · obtain rfl : k = l.length := by omega
      go_wp2
      go_ret
      exact ⟨ret_int (by rw [List.take_length]), hb⟩
set_option maxHeartbeats 1000000 in
theorem implGramAll_any (A : Option Addr) (l : List Let) (c : Nat) (w : World) (hl : SmallL l) (hR : Sl encLet 2 w A l) (hV : Env w) :
    Calls Tryz.prog 5 #[.slice A l.length c] w fun e w' => e = .returned (.int .i64 (gramL l)) ∧ Below w.heap.size w w' := by
  obtain ⟨hn, hx⟩ := hl
  go_enter Tryz.func5, Tryz.ntmps5
  go_wp2
  go_loopw [3, 8] (fun s i wr => ∃ k : Nat, k ≤ l.length ∧ i = .int .i64 k ∧ s = .int .i64 (gramL (l.take k)) ∧ Below w.heap.size w wr) (fun _ i _ => l.length - (intOf i).toNat)
  case atStart => exact ⟨0, by omega, rfl, rfl, Below.refl _ _⟩
  case round =>
    obtain ⟨k, hk, rfl, rfl, hb⟩ := hrel
    by_cases hlt : k < l.length
    · obtain ⟨b, o, rfl, hbl, c0, c1⟩ := Sl.at2 (hR.below hb) hlt
      have HG := Lib.hid (gramL_take l k hlt)
      obtain ⟨hx1, hx2⟩ := hx l[k] (by simp)
      have hx1' : l[k].1.size ≤ maxLen := by unfold maxLen; omega
      generalize l[k] = x at *
      generalize gramL (l.take k) = g at *
      have hb1 := hb.alloc hb.size (.cells #[.string x.1, .string x.2] 31)
      have HV := Lib.hid (hV.below hb1)
      clear hR hx
      go_wp2_with (go_at_call 9; refine (implStep_any g x _ hx1' (by omega) HV.out).mono ?_; rintro e w2 ⟨rfl, hb2⟩)
      go_roundw
      case rel => exact ⟨k + 1, by omega, by go_num, by rw [HG.out], bthen hb1 hb2⟩
      case measure => simp [intOf]; omega
    · obtain rfl : k = l.length := by omega
      go_wp2
      go_ret
      exact ⟨ret_int (by rw [List.take_length]), hb⟩
end Go.Proofs.YtfmhhckkpenldaaGreatDoor
