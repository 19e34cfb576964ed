import Derived.Test.YtpjkcmmmpgncmaaM10
import Derived.Test.YtpjkcmmmpgncmaaM14
import Derived.Test.YtpjkcmmmpgncmaaL6D
import Derived.Deep.RegionHeld3
import Derived.BigQuiet
import Derived.Test.YtpjkcmmmpgncmaaL3M
import Derived.Deep.RegionWith
import Derived.Test.YtpjkcmmmpgncmaaM25
/- The bundle of KpB while things are drawn: memory is new but for the reader's block. -/
namespace Go.Proofs.Ytpjkcmmmpgncmaa
open Go.RowKit
theorem Kp.rd {w0 W W' : World} {A : Option Addr} {bs : List UInt8} {c g q : Nat} (h : Rd w0 W A bs c g q) (hg : W.grownBy W' (some g)) : Kp W W' := Kp.gr h.1 (by decide) hg
/-- boxes that stand, apart from one another, facts, and the reader at q -/
def SD (w0 : World) (A : Option Addr) (bs : List UInt8) (c g q : Nat) (w : World) (L : List (Nat × TypeId × Array Value)) (Ps : List (World → Prop)) (W : World) : Prop :=
  ((∀ b ∈ L, w.heap.size ≤ b.1 ∧ Blk W b.1 b.2.1 b.2.2) ∧ (L.map (·.1)).Nodup) ∧ (∀ P ∈ Ps, KpC P ∧ P W) ∧ Rd w0 W A bs c g q ∧ w.grownBy W (some g) ∧ g < w.heap.size
section
variable {w0 w W W' : World} {A : Option Addr} {bs : List UInt8} {c g q : Nat} {L : List (Nat × TypeId × Array Value)} {Ps : List (World → Prop)}
theorem SD.rd (h : SD w0 A bs c g q w L Ps W) : Rd w0 W A bs c g q := h.2.2.1
theorem SD.gr (h : SD w0 A bs c g q w L Ps W) : w.grownBy W (some g) := h.2.2.2.1
theorem SD.get (h : SD w0 A bs c g q w L Ps W) {P : World → Prop} (k : Nat) (hk : Ps[k]? = some P) : P W := (h.2.1 P (List.mem_of_getElem? hk)).2
theorem SD.blk (h : SD w0 A bs c g q w L Ps W) (i : Nat) {a : Nat} {t : TypeId} {cs : Array Value} (hi : L[i]? = some (a, t, cs)) : Blk W a t cs := (h.1.1 _ (List.mem_of_getElem? hi)).2
theorem SD.ge (h : SD w0 A bs c g q w L Ps W) (i : Nat) {a : Nat} {t : TypeId} {cs : Array Value} (hi : L[i]? = some (a, t, cs)) : w.heap.size ≤ a := (h.1.1 _ (List.mem_of_getElem? hi)).1
theorem SD.nil (hR : Rd w0 w A bs c g q) : SD w0 A bs c g q w [] [] w := ⟨⟨fun b h => absurd h (by simp), by simp⟩, fun P hP => absurd hP (by simp), hR, gr_below (Below.refl _ _), hR.1.lt⟩
theorem SD.kept (h : SD w0 A bs c g q w L Ps W) (hb : Below W.heap.size W W') : SD w0 A bs c g q w L Ps W' :=
  ⟨⟨fun b hm => ⟨(h.1.1 b hm).1, (h.1.1 b hm).2.kept hb⟩, h.1.2⟩, fun P hP => ⟨(h.2.1 P hP).1, (h.2.1 P hP).1 _ _ (Kp.below hb) (h.2.1 P hP).2⟩, h.rd.below hb, gr_trans h.gr (gr_below hb), h.2.2.2.2⟩
theorem SD.draw {q' : Nat} (h : SD w0 A bs c g q w L Ps W) (hR : Rd w0 W' A bs c g q') (hG : W.grownBy W' (some g)) : SD w0 A bs c g q' w L Ps W' :=
  ⟨⟨fun b hm => ⟨(h.1.1 b hm).1, (h.1.1 b hm).2.grown hG (by have := (h.1.1 b hm).1; have := h.2.2.2.2; simp; omega)⟩, h.1.2⟩, fun P hP => ⟨(h.2.1 P hP).1, (h.2.1 P hP).1 _ _ (Kp.rd h.rd hG) (h.2.1 P hP).2⟩, hR, gr_trans h.gr hG, h.2.2.2.2⟩
theorem SD.add (h : SD w0 A bs c g q w L Ps W) (P : World → Prop) (hc : KpC P) (hP : P W) : SD w0 A bs c g q w L (Ps ++ [P]) W := ⟨h.1, fun Q hQ => by
  rcases List.mem_append.1 hQ with hQ | hQ
  · exact h.2.1 Q hQ
  · simp at hQ; subst hQ; exact ⟨hc, hP⟩, h.2.2⟩
theorem SD.alloc (h : SD w0 A bs c g q w L Ps W) (t : TypeId) (cs : Array Value) : SD w0 A bs c g q w (L ++ [(W.heap.size, t, cs)]) Ps (W.alloc (.cells cs t)) := by
  have hb := (Below.refl W.heap.size W).alloc (Nat.le_refl _) (.cells cs t)
  have h1 := h.kept hb
  refine ⟨⟨fun b hm => ?_, ?_⟩, h1.2⟩
  · rcases List.mem_append.1 hm with hm | hm
    · exact h1.1.1 b hm
    · simp at hm; subst hm; exact ⟨h.gr.size, Blk.new W t cs⟩
  · rw [List.map_append, List.nodup_append]
    refine ⟨h.1.2, by simp, fun x hx y hy => ?_⟩
    simp at hy; subst hy
    obtain ⟨b, hm, rfl⟩ := List.mem_map.1 hx
    have := (h.1.1 b hm).2.lt
    omega
theorem SD.boxes (h : SD w0 A bs c g q w L Ps W) : ∀ (cs : List (TypeId × Array Value)), SD w0 A bs c g q w (L ++ boxesFrom W.heap.size cs) Ps (allocAll W cs) := by
  intro cs
  induction cs generalizing L W with
  | nil => simpa [boxesFrom, allocAll] using h
  | cons x r ih =>
    obtain ⟨t, c⟩ := x
    have h1 := ih (h.alloc t c)
    rw [World.size_alloc, List.append_assoc] at h1
    exact h1
theorem SD.start (hR : Rd w0 w A bs c g q) (cs : List (TypeId × Array Value)) : SD w0 A bs c g q w (boxesFrom w.heap.size cs) [] (allocAll w cs) := by
  have h := SD.nil hR
  simpa using h.boxes cs
theorem SD.setAux {a i : Nat} {t : TypeId} {cs : Array Value} {L1 L2 : List (Nat × TypeId × Array Value)} (h : (∀ b ∈ L1 ++ (a, t, cs) :: L2, w.heap.size ≤ b.1 ∧ Blk W b.1 b.2.1 b.2.2) ∧ ((L1 ++ (a, t, cs) :: L2).map (·.1)).Nodup) (u : Value) : (∀ b ∈ L1 ++ (a, t, cs.setIfInBounds i u) :: L2, w.heap.size ≤ b.1 ∧ Blk (W.setCell ⟨a, i, none⟩ u) b.1 b.2.1 b.2.2) ∧ ((L1 ++ (a, t, cs.setIfInBounds i u) :: L2).map (·.1)).Nodup := by
  obtain ⟨h1, h2⟩ := h
  have hm0 : (a, t, cs) ∈ L1 ++ (a, t, cs) :: L2 := by simp
  have hn := h2
  simp only [List.map_append, List.map_cons] at hn
  rw [List.nodup_append, List.nodup_cons] at hn
  obtain ⟨_, ⟨hn1, _⟩, hn2⟩ := hn
  refine ⟨fun b hm => ?_, by simpa using h2⟩
  rcases List.mem_append.1 hm with hm | hm
  · have := h1 b (List.mem_append.2 (.inl hm))
    exact ⟨this.1, this.2.far (p := ⟨a, i, none⟩) (fun e => hn2 b.1 (List.mem_map.2 ⟨b, hm, rfl⟩) a (by simp) e) u⟩
  · rcases List.mem_cons.1 hm with rfl | hm
    · exact ⟨(h1 _ hm0).1, (h1 _ hm0).2.set_ i u⟩
    · have := h1 b (List.mem_append.2 (.inr (List.mem_cons_of_mem _ hm)))
      exact ⟨this.1, this.2.far (p := ⟨a, i, none⟩) (fun e => hn1 (List.mem_map.2 ⟨b, hm, e⟩)) u⟩
theorem SD.setBox {a i j : Nat} {t : TypeId} {cs : Array Value} (h : (∀ b ∈ L, w.heap.size ≤ b.1 ∧ Blk W b.1 b.2.1 b.2.2) ∧ (L.map (·.1)).Nodup) (u : Value) (hj : L[j]? = some (a, t, cs)) : (∀ b ∈ L.set j (a, t, cs.setIfInBounds i u), w.heap.size ≤ b.1 ∧ Blk (W.setCell ⟨a, i, none⟩ u) b.1 b.2.1 b.2.2) ∧ ((L.set j (a, t, cs.setIfInBounds i u)).map (·.1)).Nodup := by
  obtain ⟨hlt, he⟩ := List.getElem?_eq_some_iff.1 hj
  have e1 : L = L.take j ++ (a, t, cs) :: L.drop (j + 1) := by
    rw [← he, ← List.drop_eq_getElem_cons hlt, List.take_append_drop]
  have e2 : L.set j (a, t, cs.setIfInBounds i u) = L.take j ++ (a, t, cs.setIfInBounds i u) :: L.drop (j + 1) := List.set_eq_take_append_cons_drop.trans (if_pos hlt)
  rw [e2]
  rw [e1] at h
  exact SD.setAux h u
theorem SD.setRd {a i j : Nat} {t : TypeId} {cs : Array Value} (h : SD w0 A bs c g q w L Ps W) (u : Value) (hj : L[j]? = some (a, t, cs)) : Rd w0 (W.setCell ⟨a, i, none⟩ u) A bs c g q ∧ w.grownBy (W.setCell ⟨a, i, none⟩ u) (some g) := by
  have h1 := h.ge j hj
  have h2 := h.2.2.2.2
  have h3 := h.rd.2.2.1
  exact ⟨h.rd.farS (p := ⟨a, i, none⟩) (by simp only; omega) (by simp only; omega) u, gr_far h.gr (p := ⟨a, i, none⟩) h1 u⟩
theorem SD.set (h : SD w0 A bs c g q w L Ps W) (j i : Nat) (u : Value) {a : Nat} {t : TypeId} {cs : Array Value} (hj : L[j]? = some (a, t, cs)) (ht : t ∈ boxT) : SD w0 A bs c g q w (L.set j (a, t, cs.setIfInBounds i u)) Ps (W.setCell ⟨a, i, none⟩ u) :=
  ⟨SD.setBox h.1 u hj, fun P hP => ⟨(h.2.1 P hP).1, (h.2.1 P hP).1 _ _ ((Kp.refl W).set (h.blk j hj) ht u) (h.2.1 P hP).2⟩, (h.setRd u hj).1, (h.setRd u hj).2, h.2.2.2.2⟩
theorem SD.setN (h : SD w0 A bs c g q w L Ps W) (j i : Nat) (u : Value) {a : Nat} {t : TypeId} {cs : Array Value} (hj : L[j]? = some (a, t, cs)) : SD w0 A bs c g q w (L.set j (a, t, cs.setIfInBounds i u)) [] (W.setCell ⟨a, i, none⟩ u) :=
  ⟨SD.setBox h.1 u hj, fun P hP => absurd hP (by simp), (h.setRd u hj).1, (h.setRd u hj).2, h.2.2.2.2⟩
end
end Go.Proofs.Ytpjkcmmmpgncmaa
/- The bundle of KpB where letters are appended to a row of one's own. -/
namespace Go.Proofs.Ytpjkcmmmpgncmaa
open Go.RowKit
/-- blocks that are no boxes, and hold no letters, stay -/
def KpT (W W' : World) : Prop := W.heap.size ≤ W'.heap.size ∧ ∀ b cs t, Blk W b t cs → t ∉ boxT → t ≠ 94 → Blk W' b t cs
def KL (P : World → Prop) : Prop := ∀ W W' : World, KpT W W' → P W → P W'
theorem SlK.kpT {α : Type} {enc : α → List Value} {k : Nat} {t : TypeId} {w w' : World} {A : Option Addr} {l : List α} (h : SlK enc k t w A l) (hk : KpT w w') (ht : t ∉ boxT) (hn : t ≠ 94) : SlK enc k t w' A l := fun hl => by
  obtain ⟨b, o, cs, e, hb, hc⟩ := h hl
  exact ⟨b, o, cs, e, hk.2 _ _ _ hb ht hn, hc⟩
theorem VK.l {now : Int} {A : Option Addr} {l : List Ver} : KL (fun W => VK W now A l) := fun _ _ hk h => ⟨h.1.kpT hk (by decide) (by decide), h.2⟩
theorem WK.l {A : Option Addr} {l : List Wri} : KL (fun W => WK W A l) := fun _ _ hk h => ⟨h.1.kpT hk (by decide) (by decide), h.2⟩
theorem NK.l {A : Option Addr} {l : List Nm} : KL (fun W => NK W A l) := fun _ _ hk h => ⟨h.1.kpT hk (by decide) (by decide), h.2⟩
theorem RK.l {A : Option Addr} {l : List Row} {c : Nat} : KL (fun W => RK W A l c) := fun _ _ hk h => ⟨h.1.kpT hk (by decide) (by decide), h.2⟩
/-- a row of letters grew: no other block of old memory did -/
theorem kpT_own {w w' : World} {B n : Nat} {v : Value} {xs : List Value} (h : w.ownsRow B 94 2 v n xs) (hg : w.grownBy w' v.ownBlock) : KpT w w' := by
  refine ⟨hg.size, fun b cs t hb _ hn => hb.grown hg ?_⟩
  rcases h.2 with ⟨e, h0⟩ | ⟨g, cap, cur, e, hB, hh, r⟩
  · rw [e]; simp [Value.ownBlock]
  · rw [e]
    intro e2
    simp [Value.ownBlock] at e2
    subst e2
    unfold Blk at hb
    rw [hh] at hb
    injection hb with hb
    injection hb with e1 e3
    exact hn e3.symm
theorem own_ge {w : World} {B n k : Nat} {e : TypeId} {v : Value} {xs : List Value} (h : w.ownsRow B e k v n xs) {j : Nat} (hj : v.ownBlock = some j) : B ≤ j := by
  rcases h.2 with ⟨e, h0⟩ | ⟨g, cap, cur, e, hB, hh, r⟩
  · rw [e] at hj; simp [Value.ownBlock] at hj
  · rw [e] at hj; simp [Value.ownBlock] at hj; omega
theorem SP.grownO {w W W' : World} {L : List (Nat × TypeId × Array Value)} {Ps : List (World → Prop)} (h : SP w L Ps W) {B n : Nat} {v : Value} {xs : List Value} (ho : W.ownsRow B 94 2 v n xs) (hg : W.grownBy W' v.ownBlock) (hB : ∀ b ∈ L, b.1 < B) (hw : w.heap.size ≤ B) (hP : ∀ P ∈ Ps, KL P) : SP w L Ps W' :=
  ⟨⟨fun b hm => ⟨(h.1.1 b hm).1, (h.1.1 b hm).2.grown hg (fun e => by have := own_ge ho e.symm; have := hB b hm; omega)⟩, h.1.2.1, h.1.2.2.grown hg h.1.2.2.size (fun j hj => by have := own_ge ho hj; omega)⟩, fun P hm => ⟨(h.2 P hm).1, hP P hm _ _ (kpT_own ho hg) (h.2 P hm).2⟩⟩
theorem SD.grownO {w0 w W W' : World} {A : Option Addr} {bs : List UInt8} {c g q : Nat} {L : List (Nat × TypeId × Array Value)} {Ps : List (World → Prop)} (h : SD w0 A bs c g q w L Ps W) {B n : Nat} {v : Value} {xs : List Value} (ho : W.ownsRow B 94 2 v n xs) (hg : W.grownBy W' v.ownBlock) (hB : ∀ b ∈ L, b.1 < B) (hw : w.heap.size ≤ B) (hP : ∀ P ∈ Ps, KL P) : SD w0 A bs c g q w L Ps W' :=
  ⟨⟨fun b hm => ⟨(h.1.1 b hm).1, (h.1.1 b hm).2.grown hg (fun e => by have := own_ge ho e.symm; have := hB b hm; omega)⟩, h.1.2⟩, fun P hm => ⟨(h.2.1 P hm).1, hP P hm _ _ (kpT_own ho hg) (h.2.1 P hm).2⟩, h.rd.own hg (fun j hj => by have := own_ge ho hj; have := h.2.2.2.2; omega), gr_own h.gr hg (fun j hj => by have := own_ge ho hj; omega), h.2.2.2.2⟩
end Go.Proofs.Ytpjkcmmmpgncmaa
/- Whole boxes stored. -/
namespace Go.Proofs.Ytpjkcmmmpgncmaa
open Go.RowKit
def setFrom (cs : Array Value) : Nat → List Value → Array Value
  | _, [] => cs
  | i, u :: us => setFrom (cs.setIfInBounds i u) (i + 1) us
def storeFrom (W : World) (a : Nat) : Nat → List Value → World
  | _, [] => W
  | i, u :: us => storeFrom (W.setCell ⟨a, i, none⟩ u) a (i + 1) us
theorem set_set_box (L : List (Nat × TypeId × Array Value)) (j : Nat) (x y : Nat × TypeId × Array Value) : (L.set j x).set j y = L.set j y := List.set_set ..
theorem get_set_box (L : List (Nat × TypeId × Array Value)) (j : Nat) (x y : Nat × TypeId × Array Value) (h : L[j]? = some y) : (L.set j x)[j]? = some x := by
  obtain ⟨hl, _⟩ := List.getElem?_eq_some_iff.1 h
  exact List.getElem?_set_self hl
theorem set_same_box (L : List (Nat × TypeId × Array Value)) (j : Nat) (y : Nat × TypeId × Array Value) (h : L[j]? = some y) : L.set j y = L := by
  obtain ⟨hl, e⟩ := List.getElem?_eq_some_iff.1 h
  rw [← e]; exact List.set_getElem_self hl
theorem SP.setAll {w : World} {Ps : List (World → Prop)} {j a : Nat} {t : TypeId} (ht : t ∈ boxT) : ∀ (us : List Value) (i : Nat) {W : World} {L : List (Nat × TypeId × Array Value)} {cs : Array Value}, SP w L Ps W → L[j]? = some (a, t, cs) → SP w (L.set j (a, t, setFrom cs i us)) Ps (storeFrom W a i us)
  | [], i, W, L, cs, h, hj => by simpa [setFrom, storeFrom, set_same_box L j _ hj] using h
  | u :: us, i, W, L, cs, h, hj => by
    have h1 := SP.setAll ht us (i + 1) (h.set j i u hj ht) (get_set_box L j _ _ hj)
    rw [set_set_box] at h1
    exact h1
theorem SD.setAll {w0 w : World} {A : Option Addr} {bs : List UInt8} {c g q : Nat} {Ps : List (World → Prop)} {j a : Nat} {t : TypeId} (ht : t ∈ boxT) : ∀ (us : List Value) (i : Nat) {W : World} {L : List (Nat × TypeId × Array Value)} {cs : Array Value}, SD w0 A bs c g q w L Ps W → L[j]? = some (a, t, cs) → SD w0 A bs c g q w (L.set j (a, t, setFrom cs i us)) Ps (storeFrom W a i us)
  | [], i, W, L, cs, h, hj => by simpa [setFrom, storeFrom, set_same_box L j _ hj] using h
  | u :: us, i, W, L, cs, h, hj => by
    have h1 := SD.setAll ht us (i + 1) (h.set j i u hj ht) (get_set_box L j _ _ hj)
    rw [set_set_box] at h1
    exact h1
theorem SP.put2 {w W : World} {L : List (Nat × TypeId × Array Value)} {Ps : List (World → Prop)} (h : SP w L Ps W) (j : Nat) (u0 u1 : Value) {a : Nat} {t : TypeId} {c0 c1 : Value} (hj : L[j]? = some (a, t, #[c0, c1])) (ht : t ∈ boxT) : SP w (L.set j (a, t, #[u0, u1])) Ps ((W.setCell ⟨a, 0, none⟩ u0).setCell ⟨a, 1, none⟩ u1) := by
  have h1 := SP.setAll ht [u0, u1] 0 h hj
  simpa [setFrom, storeFrom] using h1
theorem SP.put8 {w W : World} {L : List (Nat × TypeId × Array Value)} {Ps : List (World → Prop)} (h : SP w L Ps W) (j : Nat) (u0 u1 u2 u3 u4 u5 u6 u7 : Value) {a : Nat} {t : TypeId} {c0 c1 c2 c3 c4 c5 c6 c7 : Value} (hj : L[j]? = some (a, t, #[c0, c1, c2, c3, c4, c5, c6, c7])) (ht : t ∈ boxT) : SP w (L.set j (a, t, #[u0, u1, u2, u3, u4, u5, u6, u7])) Ps ((((((((W.setCell ⟨a, 0, none⟩ u0).setCell ⟨a, 1, none⟩ u1).setCell ⟨a, 2, none⟩ u2).setCell ⟨a, 3, none⟩ u3).setCell ⟨a, 4, none⟩ u4).setCell ⟨a, 5, none⟩ u5).setCell ⟨a, 6, none⟩ u6).setCell ⟨a, 7, none⟩ u7) := by
  have h1 := SP.setAll ht [u0, u1, u2, u3, u4, u5, u6, u7] 0 h hj
  simpa [setFrom, storeFrom] using h1
theorem SD.put2 {w0 w W : World} {A : Option Addr} {bs : List UInt8} {c g q : Nat} {L : List (Nat × TypeId × Array Value)} {Ps : List (World → Prop)} (h : SD w0 A bs c g q w L Ps W) (j : Nat) (u0 u1 : Value) {a : Nat} {t : TypeId} {k0 k1 : Value} (hj : L[j]? = some (a, t, #[k0, k1])) (ht : t ∈ boxT) : SD w0 A bs c g q w (L.set j (a, t, #[u0, u1])) Ps ((W.setCell ⟨a, 0, none⟩ u0).setCell ⟨a, 1, none⟩ u1) := by
  have h1 := SD.setAll ht [u0, u1] 0 h hj
  simpa [setFrom, storeFrom] using h1
theorem SD.put8 {w0 w W : World} {A : Option Addr} {bs : List UInt8} {c g q : Nat} {L : List (Nat × TypeId × Array Value)} {Ps : List (World → Prop)} (h : SD w0 A bs c g q w L Ps W) (j : Nat) (u0 u1 u2 u3 u4 u5 u6 u7 : Value) {a : Nat} {t : TypeId} {k0 k1 k2 k3 k4 k5 k6 k7 : Value} (hj : L[j]? = some (a, t, #[k0, k1, k2, k3, k4, k5, k6, k7])) (ht : t ∈ boxT) : SD w0 A bs c g q w (L.set j (a, t, #[u0, u1, u2, u3, u4, u5, u6, u7])) Ps ((((((((W.setCell ⟨a, 0, none⟩ u0).setCell ⟨a, 1, none⟩ u1).setCell ⟨a, 2, none⟩ u2).setCell ⟨a, 3, none⟩ u3).setCell ⟨a, 4, none⟩ u4).setCell ⟨a, 5, none⟩ u5).setCell ⟨a, 6, none⟩ u6).setCell ⟨a, 7, none⟩ u7) := by
  have h1 := SD.setAll ht [u0, u1, u2, u3, u4, u5, u6, u7] 0 h hj
  simpa [setFrom, storeFrom] using h1
end Go.Proofs.Ytpjkcmmmpgncmaa
/- The reference's WorkEnd: what one did is done. -/
namespace Go.Proofs.Ytpjkcmmmpgncmaa
open Go.RowKit
theorem doR_ok {now : Int} {l : List Ver} {ws : List Wri} (hf : FitsV l) (hl : l.length ≤ 60) (h0 : 0 ≤ now) (h1 : now ≤ 40) (hw : FitsW ws) : FitsV (doR now l ws).1.2 ∧ (doR now l ws).1.2.length ≤ 60 ∧ 0 ≤ (doR now l ws).1.1 ∧ (doR now l ws).1.1 ≤ 40 := by
  unfold doR
  cases hv : versB (now + 1) (doS (now + 1) l ws)
  · rw [if_neg (by simp)]
    exact ⟨hf, hl, h0, h1⟩
  · rw [if_pos rfl]
    obtain ⟨⟨a1, a2, a3⟩, _⟩ := versB_out hv
    exact ⟨⟨by simp only; unfold maxLen; omega, doS_fits ws l hf.2 hw.2⟩, a3, a1, a2⟩
theorem VK.nil (W : World) (A : Option Addr) : VK W 0 A [] := ⟨SlK.nil _ _, ⟨Nat.zero_le _, fun y h => absurd h (by simp)⟩, by simp, by decide, by decide⟩
/-- how WorkEnd leaves -/
def EndPost (w : World) (e : Ending) (w' : World) : Prop :=
  ∃ (now' : Int) (A' : Option Addr) (l' : List Ver) (c' : Nat) (d : Int), e = .returned (.tuple #[.agg #[.int .i64 now', .slice A' l'.length c'], .int .i64 d]) ∧ VK w' now' A' l' ∧ 0 ≤ d ∧ d ≤ 3 ∧ Below w.heap.size w w'
set_option maxRecDepth 100000 in
set_option maxHeartbeats 8000000 in
theorem workEnd_any (A : Option Addr) (l : List Ver) (c : Nat) (now : Int) (t : Int) (A2 : Option Addr) (ws : List Wri) (c2 : Nat) (w : World) (hV : VK w now A l) (hW : WK w A2 ws) :
    Calls Try.prog 226 #[.agg #[.int .i64 now, .slice A l.length c], .agg #[.int .i64 t, .slice A2 ws.length c2]] w (EndPost w) := by
  have hl : l.length ≤ 60 := hV.2.2.1
  have hw8 : ws.length ≤ 8 := hW.2.2
  have HN := Lib.hid (⟨hV.2, hW.2⟩ : _ ∧ _)
  have hbE := allocAll_below w [(32, #[.int .i64 now, .slice A l.length c]), (76, #[.int .i64 t, .slice A2 ws.length c2]), (32, #[.int .i64 0, .slice none 0 0])]
  have H : Hid (SP w [(w.heap.size, 32, #[.int .i64 now, .slice A l.length c]), (w.heap.size + 1, 76, #[.int .i64 t, .slice A2 ws.length c2]), (w.heap.size + 1 + 1, 32, #[.int .i64 0, .slice none 0 0])] [fun W => VK W now A l, fun W => WK W A2 ws] ((allocAll w [(32, #[.int .i64 now, .slice A l.length c]), (76, #[.int .i64 t, .slice A2 ws.length c2]), (32, #[.int .i64 0, .slice none 0 0])]))) := Lib.hid (SP.add (SP.add (SP.start w [(32, #[.int .i64 now, .slice A l.length c]), (76, #[.int .i64 t, .slice A2 ws.length c2]), (32, #[.int .i64 0, .slice none 0 0])]) _ VK.c (VK.c _ _ (Kp.below hbE) hV)) _ WK.c (WK.c _ _ (Kp.below hbE) hW))
  clear hbE
  go_enter Try.func226, Try.ntmps226
  clear hV hW
  go_wp2_with fail
  change Calls _ _ _ (allocAll w [(32, #[.int .i64 now, .slice A l.length c]), (76, #[.int .i64 t, .slice A2 ws.length c2]), (32, #[.int .i64 0, .slice none 0 0])]) _
  generalize (allocAll w [(32, #[.int .i64 now, .slice A l.length c]), (76, #[.int .i64 t, .slice A2 ws.length c2]), (32, #[.int .i64 0, .slice none 0 0])]) = w0 at *
  refine (workOk_any A l c now t A2 ws c2 w0 (H.out.get 0 rfl) (H.out.get 1 rfl)).mono ?_
  rintro e w1 ⟨rfl, hb1⟩
  replace H := Lib.hid (H.out.kept hb1)
  clear hb1
  cases hv : workB now l t ws
  case false =>
    clear hv
    obtain ⟨x2_0, x2_1⟩ := Blk.q2 (H.out.blk 2 rfl)
    obtain ⟨z2_0, z2_1⟩ := Blk.z2 (H.out.blk 2 rfl)
    have HZ := Lib.hid (SP.set (SP.set (H.out) 2 0 (.int .i64 0) rfl (by decide)) 2 1 (.slice none 0 0) rfl (by decide))
    clear H
    go_wp2
    refine bodyPost_ret (v := .tuple #[.agg #[.int .i64 0, .slice none 0 0], .int .i64 1]) ?_ rfl (⟨0, none, [], 0, 1, rfl, VK.nil _ _, by decide, by decide, HZ.out.below⟩)
    simp [results, Try.results226, go_sem, x2_0, x2_1]
  clear hv
  obtain ⟨x1_0, x1_1⟩ := Blk.q2 (H.out.blk 1 rfl)
  go_wp2
  clear x1_0 x1_1
  go_loopw [6] (fun i wr => ∃ k : Nat, k ≤ ws.length ∧ i = .int .i64 k ∧ Hid (SP w [(w.heap.size, 32, #[.int .i64 now, .slice A l.length c]), (w.heap.size + 1, 76, #[.int .i64 t, .slice A2 ws.length c2]), (w.heap.size + 1 + 1, 32, #[.int .i64 0, .slice none 0 0])] [fun W => VK W now A l, fun W => WK W A2 ws] wr)) (fun i _ => ws.length - (intOf i).toNat)
  case atStart => exact ⟨0, by omega, rfl, H⟩
  case round =>
    clear H
    obtain ⟨k, hk, rfl, HQ⟩ := hrel
    have H := Lib.hid HQ.out
    clear HQ
    obtain ⟨x0_0, x0_1⟩ := Blk.q2 (H.out.blk 0 rfl)
    obtain ⟨x1_0, x1_1⟩ := Blk.q2 (H.out.blk 1 rfl)
    have l0 := (H.out.blk 0 rfl).lt
    have l1 := (H.out.blk 1 rfl).lt
    by_cases hlt : k < ws.length
    case pos =>
      obtain ⟨b, o, rfl, hbl, c0, c1, c2⟩ := Sl.at3 (WK.sl (H.out.get 1 rfl)) hlt
      generalize ws[k] = x at *
      obtain ⟨xk, xn, xg⟩ := x
      simp only at c0 c1 c2
      clear c1 c2
      have hki : (k : Int) < (ws.length : Int) := by omega
      have hki0 : (0 : Int) ≤ (k : Int) := by omega
      go_wp2_with fail
      refine wp_region_below (by kernel_rfl) (by kernel_rfl) ?_
      iterate 11 (refine wpQuiet_step (fun K hK => ?_); go_simp; first | (apply Exists.intro; refine ⟨fun W hW => ?_, hK _ ?_⟩; (first | rfl | (go_at_call 235; exact quiet_call hW (Nat.le_refl _) (l2Last_any A l c now xk W (by omega) (VK.sl (SP.get (H.out.kept hW) 0 rfl)))) | (have X0 := (hW.cell (p := ⟨w.heap.size, 0, none⟩) l0).trans x0_0; have X1 := (hW.cell (p := ⟨w.heap.size, 1, none⟩) l0).trans x0_1; have X2 := (hW.cell (p := ⟨w.heap.size + 1, 0, none⟩) l1).trans x1_0; have X3 := (hW.cell (p := ⟨w.heap.size + 1, 1, none⟩) l1).trans x1_1; have X4 := (hW.cell (p := ⟨b, o + k * 3, none⟩) hbl).trans c0; go_simp; rfl)); clear hK K) | (refine hK _ ?_; clear hK K))
      refine wpQuiet_nil ?_
      intro W hW
      replace H : Hid (SP w [(w.heap.size, 32, #[.int .i64 now, .slice A l.length c]), (w.heap.size + 1, 76, #[.int .i64 t, .slice (some ⟨b, o, none⟩) ws.length c2]), (w.heap.size + 1 + 1, 32, #[.int .i64 0, .slice none 0 0])] [fun W => VK W now A l, fun W => WK W (some ⟨b, o, none⟩) ws] W) := Lib.hid (H.out.kept hW)
      clear x0_0 x0_1 x1_0 x1_1 l0 l1 hW c0 hbl
      generalize W = w2 at *
      by_cases hlt2 : t < lastN l xk
      case pos =>
        obtain ⟨x0_0, x0_1⟩ := Blk.q2 (H.out.blk 0 rfl)
        go_wp2_with fail
        refine (l2Copy_any A l c now _ (by omega) (VK.sl (H.out.get 0 rfl))).mono ?_
        rintro e w3 ⟨vk, rfl, hok, hbk⟩
        obtain ⟨Ak, ck, rfl, _, _, _⟩ := hok.sl
        replace H : Hid (SP w [(w.heap.size, 32, #[.int .i64 now, .slice A l.length c]), (w.heap.size + 1, 76, #[.int .i64 t, .slice (some ⟨b, o, none⟩) ws.length c2]), (w.heap.size + 1 + 1, 32, #[.int .i64 0, .slice none 0 0])] [fun W => VK W now A l, fun W => WK W (some ⟨b, o, none⟩) ws, fun W => VK W now Ak l] w3) := Lib.hid (SP.add (H.out.kept hbk) _ VK.c (VK.of hok HN.out.1.1 HN.out.1.2.1 HN.out.1.2.2.1 HN.out.1.2.2.2))
        clear x0_0 x0_1 hbk hok
        obtain ⟨x2_0, x2_1⟩ := Blk.q2 (H.out.blk 2 rfl)
        obtain ⟨z2_0, z2_1⟩ := Blk.z2 (H.out.blk 2 rfl)
        have HZ := Lib.hid (SP.set (SP.set (H.out) 2 0 (.int .i64 now) rfl (by decide)) 2 1 (.slice Ak l.length ck) rfl (by decide))
        clear H
        go_wp2
        refine bodyPost_ret (v := .tuple #[.agg #[.int .i64 now, .slice Ak l.length ck], .int .i64 2]) ?_ rfl (⟨now, Ak, l, ck, 2, rfl, HZ.out.get 2 rfl, by decide, by decide, HZ.out.below⟩)
        simp [results, Try.results226, go_sem, x2_0, x2_1]
      go_wp2
      go_roundw
      case rel => exact ⟨k + 1, by omega, by go_num, H⟩
      case measure => simp [intOf]; omega
    obtain rfl : k = ws.length := by omega
    by_cases h0 : ws.length = 0
    case pos =>
      clear x0_0 x0_1 x1_0 x1_1 l0 l1
      have h0i : ((ws.length : Int) == 0) = true := beq_iff_eq.2 (by omega)
      have h0j : (ws.length : Int) = 0 := by omega
      obtain ⟨x1_0, x1_1⟩ := Blk.q2 (H.out.blk 1 rfl)
      obtain ⟨x0_0, x0_1⟩ := Blk.q2 (H.out.blk 0 rfl)
      go_wp2_with fail
      refine (l2Copy_any A l c now _ (by omega) (VK.sl (H.out.get 0 rfl))).mono ?_
      rintro e w3 ⟨vk, rfl, hok, hbk⟩
      obtain ⟨Ak, ck, rfl, _, _, _⟩ := hok.sl
      replace H : Hid (SP w [(w.heap.size, 32, #[.int .i64 now, .slice A l.length c]), (w.heap.size + 1, 76, #[.int .i64 t, .slice A2 ws.length c2]), (w.heap.size + 1 + 1, 32, #[.int .i64 0, .slice none 0 0])] [fun W => VK W now A l, fun W => WK W A2 ws, fun W => VK W now Ak l] w3) := Lib.hid (SP.add (H.out.kept hbk) _ VK.c (VK.of hok HN.out.1.1 HN.out.1.2.1 HN.out.1.2.2.1 HN.out.1.2.2.2))
      clear x1_0 x1_1 x0_0 x0_1 hbk hok
      obtain ⟨x2_0, x2_1⟩ := Blk.q2 (H.out.blk 2 rfl)
      obtain ⟨z2_0, z2_1⟩ := Blk.z2 (H.out.blk 2 rfl)
      have HZ := Lib.hid (SP.set (SP.set (H.out) 2 0 (.int .i64 now) rfl (by decide)) 2 1 (.slice Ak l.length ck) rfl (by decide))
      clear H
      go_wp2
      refine bodyPost_ret (v := .tuple #[.agg #[.int .i64 now, .slice Ak l.length ck], .int .i64 0]) ?_ rfl (⟨now, Ak, l, ck, 0, rfl, HZ.out.get 2 rfl, by decide, by decide, HZ.out.below⟩)
      simp [results, Try.results226, go_sem, x2_0, x2_1]
    have h0i : ((ws.length : Int) == 0) = false := beq_eq_false_iff_ne.2 (by omega)
    have h0j : ¬ (ws.length : Int) = 0 := by omega
    go_wp2_with fail
    refine (l2Do_any A A2 l ws c c2 now _ (by omega) (by omega) HN.out.1.2.2.1 (by have := HN.out.1.2.2.2; omega) HN.out.1.1 HN.out.2.1 (VK.sl (H.out.get 0 rfl)) (WK.sl (H.out.get 1 rfl))).mono ?_
    have HD := Lib.hid (doR_ok HN.out.1.1 HN.out.1.2.1 HN.out.1.2.2.1 HN.out.1.2.2.2 HN.out.2.1)
    generalize doR now l ws = r at *
    obtain ⟨⟨nw, L⟩, ok⟩ := r
    rintro e w5 ⟨v5, rfl, ho5, hb5⟩
    simp only at ho5 ⊢
    obtain ⟨A5, c5, rfl, _, _, _⟩ := ho5.sl
    replace H : Hid (SP w [(w.heap.size, 32, #[.int .i64 now, .slice A l.length c]), (w.heap.size + 1, 76, #[.int .i64 t, .slice A2 ws.length c2]), (w.heap.size + 1 + 1, 32, #[.int .i64 0, .slice none 0 0])] [fun W => VK W now A l, fun W => WK W A2 ws, fun W => VK W nw A5 L] w5) := Lib.hid (SP.add (H.out.kept hb5) _ VK.c (VK.of ho5 HD.out.1 HD.out.2.1 HD.out.2.2.1 HD.out.2.2.2))
    clear x0_0 x0_1 x1_0 x1_1 l0 l1 hb5 ho5
    have H := Lib.hid (H.out.alloc 32 #[.int .i64 nw, .slice A5 L.length c5])
    cases ok
    case false =>
      obtain ⟨x0_0, x0_1⟩ := Blk.q2 (H.out.blk 0 rfl)
      go_wp2_with fail
      refine (l2Copy_any A l c now _ (by omega) (VK.sl (H.out.get 0 rfl))).mono ?_
      rintro e w7 ⟨vk, rfl, hok, hbk⟩
      obtain ⟨Ak, ck, rfl, _, _, _⟩ := hok.sl
      replace H : Hid (SP w [(w.heap.size, 32, #[.int .i64 now, .slice A l.length c]), (w.heap.size + 1, 76, #[.int .i64 t, .slice A2 ws.length c2]), (w.heap.size + 1 + 1, 32, #[.int .i64 0, .slice none 0 0]), (w5.heap.size, 32, #[.int .i64 nw, .slice A5 L.length c5])] [fun W => VK W now A l, fun W => WK W A2 ws, fun W => VK W nw A5 L, fun W => VK W now Ak l] w7) := Lib.hid (SP.add (H.out.kept hbk) _ VK.c (VK.of hok HN.out.1.1 HN.out.1.2.1 HN.out.1.2.2.1 HN.out.1.2.2.2))
      clear x0_0 x0_1 hbk hok
      obtain ⟨x2_0, x2_1⟩ := Blk.q2 (H.out.blk 2 rfl)
      obtain ⟨z2_0, z2_1⟩ := Blk.z2 (H.out.blk 2 rfl)
      have HZ := Lib.hid (SP.set (SP.set (H.out) 2 0 (.int .i64 now) rfl (by decide)) 2 1 (.slice Ak l.length ck) rfl (by decide))
      clear H
      go_wp2
      refine bodyPost_ret (v := .tuple #[.agg #[.int .i64 now, .slice Ak l.length ck], .int .i64 3]) ?_ rfl (⟨now, Ak, l, ck, 3, rfl, HZ.out.get 3 rfl, by decide, by decide, HZ.out.below⟩)
      simp [results, Try.results226, go_sem, x2_0, x2_1]
    obtain ⟨x2_0, x2_1⟩ := Blk.q2 (H.out.blk 2 rfl)
    obtain ⟨z2_0, z2_1⟩ := Blk.z2 (H.out.blk 2 rfl)
    have HZ := Lib.hid (SP.set (SP.set (H.out) 2 0 (.int .i64 nw) rfl (by decide)) 2 1 (.slice A5 L.length c5) rfl (by decide))
    clear H
    go_wp2
    refine bodyPost_ret (v := .tuple #[.agg #[.int .i64 nw, .slice A5 L.length c5], .int .i64 0]) ?_ rfl (⟨nw, A5, L, c5, 0, rfl, HZ.out.get 2 rfl, by decide, by decide, HZ.out.below⟩)
    simp [results, Try.results226, go_sem, x2_0, x2_1]
end Go.Proofs.Ytpjkcmmmpgncmaa
/- The reference's l4Ends: what one does by oneself comes to its end. -/
namespace Go.Proofs.Ytpjkcmmmpgncmaa
open Go.RowKit
/-- a store and a seat come back, and how it ended -/
def VSPost (w : World) (e : Ending) (w' : World) : Prop :=
  ∃ (now' : Int) (A' : Option Addr) (l' : List Ver) (c' : Nat) (on' bad' : Bool) (t' : Int) (A2' : Option Addr) (ws' : List Wri) (c2' : Nat) (d : Int),
    e = .returned (.tuple #[.agg #[.int .i64 now', .slice A' l'.length c'], .agg #[.bool on', .bool bad', .int .i64 t', .slice A2' ws'.length c2'], .int .i64 d]) ∧ VK w' now' A' l' ∧ WK w' A2' ws' ∧ 0 ≤ d ∧ d ≤ 6 ∧ Below w.heap.size w w'
set_option maxRecDepth 100000 in
set_option maxHeartbeats 8000000 in
theorem l4Ends_any (A : Option Addr) (l : List Ver) (c : Nat) (now : Int) (on bad : Bool) (t : Int) (A2 : Option Addr) (ws : List Wri) (c2 : Nat) (kind : Int) (w : World) (hV : VK w now A l) (hW : WK w A2 ws) :
    Calls Try.prog 214 #[.agg #[.int .i64 now, .slice A l.length c], .agg #[.bool on, .bool bad, .int .i64 t, .slice A2 ws.length c2], .int .i64 kind] w (VSPost w) := by
  have hbE := allocAll_below w [(32, #[.int .i64 now, .slice A l.length c]), (78, #[.bool on, .bool bad, .int .i64 t, .slice A2 ws.length c2]), (32, #[.int .i64 0, .slice none 0 0]), (78, #[.bool false, .bool false, .int .i64 0, .slice none 0 0]), (78, #[.bool false, .bool false, .int .i64 0, .slice none 0 0])]
  have H : Hid (SP w [(w.heap.size, 32, #[.int .i64 now, .slice A l.length c]), (w.heap.size + 1, 78, #[.bool on, .bool bad, .int .i64 t, .slice A2 ws.length c2]), (w.heap.size + 1 + 1, 32, #[.int .i64 0, .slice none 0 0]), (w.heap.size + 1 + 1 + 1, 78, #[.bool false, .bool false, .int .i64 0, .slice none 0 0]), (w.heap.size + 1 + 1 + 1 + 1, 78, #[.bool false, .bool false, .int .i64 0, .slice none 0 0])] [fun W => VK W now A l, fun W => WK W A2 ws] ((allocAll w [(32, #[.int .i64 now, .slice A l.length c]), (78, #[.bool on, .bool bad, .int .i64 t, .slice A2 ws.length c2]), (32, #[.int .i64 0, .slice none 0 0]), (78, #[.bool false, .bool false, .int .i64 0, .slice none 0 0]), (78, #[.bool false, .bool false, .int .i64 0, .slice none 0 0])]))) := Lib.hid (SP.add (SP.add (SP.start w [(32, #[.int .i64 now, .slice A l.length c]), (78, #[.bool on, .bool bad, .int .i64 t, .slice A2 ws.length c2]), (32, #[.int .i64 0, .slice none 0 0]), (78, #[.bool false, .bool false, .int .i64 0, .slice none 0 0]), (78, #[.bool false, .bool false, .int .i64 0, .slice none 0 0])]) _ VK.c (VK.c _ _ (Kp.below hbE) hV)) _ WK.c (WK.c _ _ (Kp.below hbE) hW))
  clear hbE
  go_enter Try.func214, Try.ntmps214
  clear hV hW
  obtain ⟨x0_0, x0_1⟩ := Blk.q2 (H.out.blk 0 rfl)
  obtain ⟨x1_0, x1_1, x1_2, x1_3⟩ := Blk.q4 (H.out.blk 1 rfl)
  obtain ⟨x2_0, x2_1⟩ := Blk.q2 (H.out.blk 2 rfl)
  obtain ⟨x3_0, x3_1, x3_2, x3_3⟩ := Blk.q4 (H.out.blk 3 rfl)
  obtain ⟨x4_0, x4_1, x4_2, x4_3⟩ := Blk.q4 (H.out.blk 4 rfl)
  have z2_0 := (H.out.blk 2 rfl).frozen 0
  have z2_1 := (H.out.blk 2 rfl).frozen 1
  have z3_0 := (H.out.blk 3 rfl).frozen 0
  have z3_1 := (H.out.blk 3 rfl).frozen 1
  have z3_2 := (H.out.blk 3 rfl).frozen 2
  have z3_3 := (H.out.blk 3 rfl).frozen 3
  cases on
  case false =>
    go_wp2_with fail
    change Code.wp _ _ _ _ (allocAll w [(32, #[.int .i64 now, .slice A l.length c]), (78, #[.bool false, .bool bad, .int .i64 t, .slice A2 ws.length c2]), (32, #[.int .i64 0, .slice none 0 0]), (78, #[.bool false, .bool false, .int .i64 0, .slice none 0 0]), (78, #[.bool false, .bool false, .int .i64 0, .slice none 0 0])])
    generalize (allocAll w [(32, #[.int .i64 now, .slice A l.length c]), (78, #[.bool false, .bool bad, .int .i64 t, .slice A2 ws.length c2]), (32, #[.int .i64 0, .slice none 0 0]), (78, #[.bool false, .bool false, .int .i64 0, .slice none 0 0]), (78, #[.bool false, .bool false, .int .i64 0, .slice none 0 0])]) = w0 at *
    go_region
    all_goals
      go_wp2
      first
      | (have HZ := Lib.hid (SP.kept (SP.set (SP.set (SP.set (SP.set (SP.set (SP.set (H.out) 2 0 (.int .i64 now) rfl (by decide)) 2 1 (.slice A l.length c) rfl (by decide)) 3 0 (.bool false) rfl (by decide)) 3 1 (.bool bad) rfl (by decide)) 3 2 (.int .i64 t) rfl (by decide)) 3 3 (.slice A2 ws.length c2) rfl (by decide)) (kD _)); refine bodyPost_ret (v := .tuple #[.agg #[.int .i64 now, .slice A l.length c], .agg #[.bool false, .bool bad, .int .i64 t, .slice A2 ws.length c2], .int .i64 4]) ?_ rfl (⟨now, A, l, c, false, bad, t, A2, ws, c2, 4, rfl, HZ.out.get 0 rfl, HZ.out.get 1 rfl, by decide, by decide, HZ.out.below⟩); (simp [results, Try.results214, go_sem, x2_0, x2_1, x3_0, x3_1, x3_2, x3_3]; done))
  by_cases h9 : kind = 9
  case pos =>
    subst h9
    go_wp2_with fail
    change Code.wp _ _ _ _ (allocAll w [(32, #[.int .i64 now, .slice A l.length c]), (78, #[.bool true, .bool bad, .int .i64 t, .slice A2 ws.length c2]), (32, #[.int .i64 0, .slice none 0 0]), (78, #[.bool false, .bool false, .int .i64 0, .slice none 0 0]), (78, #[.bool false, .bool false, .int .i64 0, .slice none 0 0])])
    generalize (allocAll w [(32, #[.int .i64 now, .slice A l.length c]), (78, #[.bool true, .bool bad, .int .i64 t, .slice A2 ws.length c2]), (32, #[.int .i64 0, .slice none 0 0]), (78, #[.bool false, .bool false, .int .i64 0, .slice none 0 0]), (78, #[.bool false, .bool false, .int .i64 0, .slice none 0 0])]) = w0 at *
    go_region
    all_goals
      go_wp2
      first
      | (have HZ := Lib.hid (SP.kept (SP.set (SP.set (SP.set (SP.set (SP.set (SP.set (H.out) 2 0 (.int .i64 now) rfl (by decide)) 2 1 (.slice A l.length c) rfl (by decide)) 3 0 (.bool false) rfl (by decide)) 3 1 (.bool false) rfl (by decide)) 3 2 (.int .i64 0) rfl (by decide)) 3 3 (.slice none 0 0) rfl (by decide)) (kD _)); refine bodyPost_ret (v := .tuple #[.agg #[.int .i64 now, .slice A l.length c], .agg #[.bool false, .bool false, .int .i64 0, .slice none 0 0], .int .i64 0]) ?_ rfl (⟨now, A, l, c, false, false, 0, none, [], 0, 0, rfl, HZ.out.get 0 rfl, WK.nil _ _, by decide, by decide, HZ.out.below⟩); (simp [results, Try.results214, go_sem, x2_0, x2_1, x3_0, x3_1, x3_2, x3_3]; done))
  have e9 : (kind == 9) = false := beq_eq_false_iff_ne.2 h9
  cases bad
  case true =>
    go_wp2_with fail
    change Code.wp _ _ _ _ (allocAll w [(32, #[.int .i64 now, .slice A l.length c]), (78, #[.bool true, .bool true, .int .i64 t, .slice A2 ws.length c2]), (32, #[.int .i64 0, .slice none 0 0]), (78, #[.bool false, .bool false, .int .i64 0, .slice none 0 0]), (78, #[.bool false, .bool false, .int .i64 0, .slice none 0 0])])
    generalize (allocAll w [(32, #[.int .i64 now, .slice A l.length c]), (78, #[.bool true, .bool true, .int .i64 t, .slice A2 ws.length c2]), (32, #[.int .i64 0, .slice none 0 0]), (78, #[.bool false, .bool false, .int .i64 0, .slice none 0 0]), (78, #[.bool false, .bool false, .int .i64 0, .slice none 0 0])]) = w0 at *
    go_region
    all_goals
      go_wp2
      first
      | (have HZ := Lib.hid (SP.kept (SP.set (SP.set (SP.set (SP.set (SP.set (SP.set (H.out) 2 0 (.int .i64 now) rfl (by decide)) 2 1 (.slice A l.length c) rfl (by decide)) 3 0 (.bool false) rfl (by decide)) 3 1 (.bool false) rfl (by decide)) 3 2 (.int .i64 0) rfl (by decide)) 3 3 (.slice none 0 0) rfl (by decide)) (kD _)); refine bodyPost_ret (v := .tuple #[.agg #[.int .i64 now, .slice A l.length c], .agg #[.bool false, .bool false, .int .i64 0, .slice none 0 0], .int .i64 5]) ?_ rfl (⟨now, A, l, c, false, false, 0, none, [], 0, 5, rfl, HZ.out.get 0 rfl, WK.nil _ _, by decide, by decide, HZ.out.below⟩); (simp [results, Try.results214, go_sem, x2_0, x2_1, x3_0, x3_1, x3_2, x3_3]; done))
  go_wp2_with fail
  change Calls _ _ _ (allocAll w [(32, #[.int .i64 now, .slice A l.length c]), (78, #[.bool true, .bool false, .int .i64 t, .slice A2 ws.length c2]), (32, #[.int .i64 0, .slice none 0 0]), (78, #[.bool false, .bool false, .int .i64 0, .slice none 0 0]), (78, #[.bool false, .bool false, .int .i64 0, .slice none 0 0])]) _
  generalize (allocAll w [(32, #[.int .i64 now, .slice A l.length c]), (78, #[.bool true, .bool false, .int .i64 t, .slice A2 ws.length c2]), (32, #[.int .i64 0, .slice none 0 0]), (78, #[.bool false, .bool false, .int .i64 0, .slice none 0 0]), (78, #[.bool false, .bool false, .int .i64 0, .slice none 0 0])]) = w0 at *
  refine (workEnd_any A l c now t A2 ws c2 w0 (H.out.get 0 rfl) (H.out.get 1 rfl)).mono ?_
  rintro e w1 ⟨nw, A5, L, c5, d, rfl, hVL, hd0, hd1, hb1⟩
  replace H : Hid (SP w [(w.heap.size, 32, #[.int .i64 now, .slice A l.length c]), (w.heap.size + 1, 78, #[.bool true, .bool false, .int .i64 t, .slice A2 ws.length c2]), (w.heap.size + 1 + 1, 32, #[.int .i64 0, .slice none 0 0]), (w.heap.size + 1 + 1 + 1, 78, #[.bool false, .bool false, .int .i64 0, .slice none 0 0]), (w.heap.size + 1 + 1 + 1 + 1, 78, #[.bool false, .bool false, .int .i64 0, .slice none 0 0])] [fun W => VK W now A l, fun W => WK W A2 ws, fun W => VK W nw A5 L] w1) := Lib.hid (SP.add (H.out.kept hb1) _ VK.c (hVL))
  clear x0_0 x0_1 x1_0 x1_1 x1_2 x1_3 x2_0 x2_1 x3_0 x3_1 x3_2 x3_3 x4_0 x4_1 x4_2 x4_3 hb1 hVL
  have H := Lib.hid (H.out.alloc 32 #[.int .i64 nw, .slice A5 L.length c5])
  obtain ⟨x2_0, x2_1⟩ := Blk.q2 (H.out.blk 2 rfl)
  obtain ⟨x3_0, x3_1, x3_2, x3_3⟩ := Blk.q4 (H.out.blk 3 rfl)
  obtain ⟨x4_0, x4_1, x4_2, x4_3⟩ := Blk.q4 (H.out.blk 4 rfl)
  obtain ⟨z2_0, z2_1⟩ := Blk.z2 (H.out.blk 2 rfl)
  obtain ⟨z3_0, z3_1, z3_2, z3_3⟩ := Blk.z4 (H.out.blk 3 rfl)
  have HD := Lib.hid (show 0 ≤ d ∧ d ≤ 6 by omega)
  clear hd0 hd1
  go_wp2_with fail
  go_region
  all_goals
    go_wp2
    first
    | (have HZ := Lib.hid (SP.kept (SP.set (SP.set (SP.set (SP.set (SP.set (SP.set (H.out) 2 0 (.int .i64 nw) rfl (by decide)) 2 1 (.slice A5 L.length c5) rfl (by decide)) 3 0 (.bool false) rfl (by decide)) 3 1 (.bool false) rfl (by decide)) 3 2 (.int .i64 0) rfl (by decide)) 3 3 (.slice none 0 0) rfl (by decide)) (kD _)); refine bodyPost_ret (v := .tuple #[.agg #[.int .i64 nw, .slice A5 L.length c5], .agg #[.bool false, .bool false, .int .i64 0, .slice none 0 0], .int .i64 d]) ?_ rfl (⟨nw, A5, L, c5, false, false, 0, none, [], 0, d, rfl, HZ.out.get 2 rfl, WK.nil _ _, HD.out.1, HD.out.2, HZ.out.below⟩); (simp [results, Try.results214, go_sem, x2_0, x2_1, x3_0, x3_1, x3_2, x3_3]; done))
end Go.Proofs.Ytpjkcmmmpgncmaa
