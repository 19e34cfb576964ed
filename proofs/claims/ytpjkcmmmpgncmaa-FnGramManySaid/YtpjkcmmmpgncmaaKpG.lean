import Derived.Test.YtpjkcmmmpgncmaaM11
import Derived.Test.YtpjkcmmmpgncmaaL6A
/- The bundle while things are drawn, beside a row of letters of one's own and a letter's box. -/
namespace Go.Proofs.Ytpjkcmmmpgncmaa
open Go.RowKit
theorem kpT_set {W : World} {g1 i : Nat} {cs : Array Value} (h : Blk W g1 94 cs) (u : Value) : KpT W (W.setCell ⟨g1, i, none⟩ u) :=
  ⟨by rw [World.size_setCell]; exact Nat.le_refl _, fun _ _ _ hb _ hn => hb.far (p := ⟨g1, i, none⟩) (blk_ne hb h hn) u⟩
theorem own_farL {W : World} {B k n g1 i : Nat} {e : TypeId} {v : Value} {xs : List Value} (h : W.ownsRow B e k v n xs) (hne : ∀ j, v.ownBlock = some j → j ≠ g1) (u : Value) : (W.setCell ⟨g1, i, none⟩ u).ownsRow B e k v n xs := by
  refine ⟨h.1, ?_⟩
  rcases h.2 with h2 | ⟨g, cap, cur, hv, hg, hh, r⟩
  · exact .inl h2
  · refine .inr ⟨g, cap, cur, hv, hg, ?_, r⟩
    have := hne g (by rw [hv]; rfl)
    exact (heap_setCell_other W ⟨g1, i, none⟩ g u this).trans hh
section
variable {w0 w W W' : World} {A : Option Addr} {bs : List UInt8} {c g q : Nat} {L : List (Nat × TypeId × Array Value)} {Ps : List (World → Prop)}
theorem SD.drop {b : Nat × TypeId × Array Value} (h : SD w0 A bs c g q w (L ++ [b]) Ps W) : SD w0 A bs c g q w L Ps W :=
  ⟨⟨fun x hx => h.1.1 x (List.mem_append.2 (.inl hx)), by have := h.1.2; rw [List.map_append, List.nodup_append] at this; exact this.1⟩, h.2⟩
theorem SD.only (h : SD w0 A bs c g q w L Ps W) (Qs : List (World → Prop)) (hq : ∀ P ∈ Qs, KpC P ∧ P W) : SD w0 A bs c g q w L Qs W := ⟨h.1, hq, h.2.2⟩
theorem SD.grownX (h : SD w0 A bs c g q w L Ps W) {B n : Nat} {v : Value} {xs : List Value} (ho : W.ownsRow B 94 2 v n xs) (hg : W.grownBy W' v.ownBlock) (hB : ∀ b ∈ L, ∀ j, v.ownBlock = some j → b.1 ≠ j) (hw : w.heap.size ≤ B) (hP : ∀ P ∈ Ps, KL P) : SD w0 A bs c g q w L Ps W' :=
  ⟨⟨fun b hm => ⟨(h.1.1 b hm).1, (h.1.1 b hm).2.grown hg (fun e => hB b hm _ e.symm rfl)⟩, h.1.2⟩, fun P hm => ⟨(h.2.1 P hm).1, hP P hm _ _ (kpT_own ho hg) (h.2.1 P hm).2⟩, h.rd.own hg (fun j hj => by have := own_ge ho hj; have := h.2.2.2.2; omega), gr_own h.gr hg (fun j hj => by have := own_ge ho hj; omega), h.2.2.2.2⟩
/-- a box that was made behind the world of the bundle -/
theorem SD.addBox (h : SD w0 A bs c g q w L Ps W) {b : Nat} {t : TypeId} {cs : Array Value} (hB : Blk W b t cs) (hg : w.heap.size ≤ b) (hn : ∀ x ∈ L, x.1 ≠ b) : SD w0 A bs c g q w (L ++ [(b, t, cs)]) Ps W := by
  refine ⟨⟨fun x hm => ?_, ?_⟩, h.2⟩
  · rcases List.mem_append.1 hm with hm | hm
    · exact h.1.1 x hm
    · simp at hm; subst hm; exact ⟨hg, hB⟩
  · rw [List.map_append, List.nodup_append]
    refine ⟨h.1.2, by simp, fun x hx y hy => ?_⟩
    simp at hy; subst hy
    obtain ⟨b', hm, rfl⟩ := List.mem_map.1 hx
    exact hn b' hm
theorem SD.setL (h : SD w0 A bs c g q w L Ps W) {g1 i : Nat} {u : Value} (hge : w.heap.size ≤ g1) (hn : ∀ b ∈ L, b.1 ≠ g1) (hP : ∀ P ∈ Ps, P (W.setCell ⟨g1, i, none⟩ u)) : SD w0 A bs c g q w L Ps (W.setCell ⟨g1, i, none⟩ u) := by
  have h1 := h.2.2.2.2
  have h2 := h.rd.2.2.1
  exact ⟨⟨fun b hm => ⟨(h.1.1 b hm).1, (h.1.1 b hm).2.far (p := ⟨g1, i, none⟩) (hn b hm) u⟩, h.1.2⟩, fun P hm => ⟨(h.2.1 P hm).1, hP P hm⟩, h.rd.farS (p := ⟨g1, i, none⟩) (by simp only; omega) (by simp only; omega) u, gr_far h.gr (p := ⟨g1, i, none⟩) hge u, h.2.2.2.2⟩
/-- a letter is laid into a box that was made before -/
theorem SD.letBox {now : Int} {A1 A2 A3 : Option Addr} {l : List Ver} {ws : List Wri} {ns : List Nm} {B : Nat} {v : Value} {LO : List Let} {g1 : Nat} {a0 a1 : Value} (h : SD w0 A bs c g q w L [fun W => VK W now A1 l, fun W => WK W A2 ws, fun W => NK W A3 ns, fun W => OwnL W B v LO] W)
    (hB : Blk W g1 94 #[a0, a1]) (hge : w.heap.size ≤ g1) (hn : ∀ b ∈ L, b.1 ≠ g1) (ho : ∀ j, v.ownBlock = some j → j ≠ g1) (u0 u1 : Value) :
    SD w0 A bs c g q w (L ++ [(g1, 94, #[u0, u1])]) [fun W => VK W now A1 l, fun W => WK W A2 ws, fun W => NK W A3 ns, fun W => OwnL W B v LO] ((W.setCell ⟨g1, 0, none⟩ u0).setCell ⟨g1, 1, none⟩ u1) := by
  have hB1 := hB.set_ 0 u0
  have step : ∀ (X : World) (i : Nat) (u : Value) (ds : Array Value), SD w0 A bs c g q w L [fun W => VK W now A1 l, fun W => WK W A2 ws, fun W => NK W A3 ns, fun W => OwnL W B v LO] X → Blk X g1 94 ds → SD w0 A bs c g q w L [fun W => VK W now A1 l, fun W => WK W A2 ws, fun W => NK W A3 ns, fun W => OwnL W B v LO] (X.setCell ⟨g1, i, none⟩ u) := fun X i u ds hX hd => by
    refine hX.setL hge hn ?_
    refine List.forall_mem_cons.2 ⟨VK.l _ _ (kpT_set hd u) (hX.get 0 rfl), List.forall_mem_cons.2 ⟨WK.l _ _ (kpT_set hd u) (hX.get 1 rfl), List.forall_mem_cons.2 ⟨NK.l _ _ (kpT_set hd u) (hX.get 2 rfl), List.forall_mem_cons.2 ⟨own_farL (hX.get 3 rfl) ho u, fun P hP => absurd hP (by simp)⟩⟩⟩⟩
  have h2 := step _ 1 u1 _ (step W 0 u0 _ h hB) hB1
  exact h2.addBox (hB1.set_ 1 u1) hge hn
end
end Go.Proofs.Ytpjkcmmmpgncmaa
