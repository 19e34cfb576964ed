/- Words for ranges over functions: what a round keeps, marks among the deferred calls, a function that leaves with marks. -/
import Derived.Test.YtpjkcmmmpgncmaaLib
import Derived.RangeFuncNested
import Derived.RangeFuncBound
import Derived.RangeFuncCalls
import Derived.RangeFuncLeaves
import Derived.RangeFuncWrites
import Derived.RangeFuncBox
import Derived.Shelf.Abstract
import Derived.Shelf.RegionOpen
import Derived.WalkKit
import Derived.OwnWalkIn
import Derived.TacticsInMore
import Derived.LoopNIn
import Derived.LoopIn
namespace Go.Proofs.Ytpjkcmmmpgncmaa
open Go.RowKit Go.Shelf
attribute [local go_sem] Oper.semAt_some
/-- below N0 nothing has turned but block bs -/
def KpB (N0 bs : Nat) (W W' : World) : Prop := W.heap.size ≤ W'.heap.size ∧ ∀ k, k < N0 → k ≠ bs → W'.heap[k]? = W.heap[k]?
section
variable {N0 bs : Nat} {W W1 W2 : World}
theorem KpB.refl (N0 bs : Nat) (W : World) : KpB N0 bs W W := ⟨Nat.le_refl _, fun _ _ _ => rfl⟩
theorem KpB.trans (h : KpB N0 bs W W1) (h2 : KpB N0 bs W1 W2) : KpB N0 bs W W2 := ⟨Nat.le_trans h.1 h2.1, fun k hk hne => (h2.2 k hk hne).trans (h.2 k hk hne)⟩
theorem KpB.of_below (h : Below W.heap.size W W1) (hN : N0 ≤ W.heap.size) : KpB N0 bs W W1 := ⟨h.size, fun k hk _ => h.block k (by omega)⟩
theorem KpB.put {l : Nat} (hN : N0 ≤ l) (o' : Obj) : KpB N0 bs W (W.putObj l o') := ⟨by simp, fun k hk _ => World.putObj_heap_other (by omega)⟩
theorem KpB.cell (h : KpB N0 bs W W1) {p : Addr} (hp : p.block < N0) (hne : p.block ≠ bs) : W1.cell? p = W.cell? p := World.cell?_of_block (h.2 p.block hp hne)
theorem KpB.sl {α : Type} {enc : α → List Value} {k : Nat} {A : Option Addr} {l : List α} {w : World} (h : KpB N0 bs W W1) (hS : Sl enc k w A l) (hw : w.heap.size ≤ bs) (hN : bs < N0) (hW : Below w.heap.size w W) : Sl enc k W1 A l := by
  intro hl
  obtain ⟨b, o, rfl, hlt, hc⟩ := hS hl
  refine ⟨b, o, rfl, by have := h.1; have := hW.size; omega, fun i j x hx hj => ?_⟩
  rw [h.cell (by simp; omega) (by simp; omega), hW.cell (by simp; omega)]
  exact hc i j x hx hj
end
theorem grown_none {w w1 : World} (h : Below w.heap.size w w1) : w.grownBy w1 none := ⟨h.os, h.tape, h.output, h.size, fun k hk _ => h.block k hk⟩
theorem abides {β : Type} {B : Nat} {J : β → World → Prop} (hJ : AbidesFrom B J) {s : β} {W W' : World} (h : J s W) (hb : Below W.heap.size W W') : J s W' := hJ s W W' none h (grown_none hb) (fun r e => by cases e)
abbrev mkD (D : Nat) : Deferred := { target := .collected D, args := #[] }
def MarksAt (B : Nat) (Ds : List Nat) (w : World) : Prop := Ds.Nodup ∧ ∀ D ∈ Ds, B ≤ D ∧ w.heap[D]? = some (.deferred (some []))
theorem below_put {B D : Nat} (w : World) (o : Obj) (h : B ≤ D) : Below B w (w.putObj D o) := ⟨rfl, rfl, rfl, by simp, fun k hk => World.putObj_heap_other (by omega)⟩
theorem MarksAt.leaves {P : Program} {F : Fence} {n : Nat} {fn : Func} {tmps : Array Value} {R : Ending → World → Prop} {B : Nat} {v : Value} : ∀ (Ds : List Nat) (w : World), MarksAt B Ds w →
    (∀ w', Below B w w' → (results fn tmps).run P w' = .ok v w' ∧ R (.returned v) w') → LeavesInM F n P fn tmps R (Ds.map mkD) .returning w
  | [], w, _, hres => ⟨v, hres w (Below.refl _ _)⟩
  | D :: Ds, w, h, hres => by
    have hD := h.2 D (by simp)
    have hnd := List.nodup_cons.1 h.1
    refine ⟨by simp, .inl ⟨D, _, rfl, run_takeDeferred hD.2, MarksAt.leaves Ds _ ⟨hnd.2, fun D' hD' => ?_⟩ (fun w' hb => hres w' ((below_put w _ hD.1).trans hb))⟩⟩
    have h2 := h.2 D' (by simp [hD'])
    have hne : D' ≠ D := fun e => hnd.1 (e ▸ hD')
    exact ⟨h2.1, (World.putObj_heap_other hne).trans h2.2⟩
theorem MarksAt.nil (B : Nat) (w : World) : MarksAt B [] w := ⟨List.nodup_nil, fun _ h => by cases h⟩
theorem MarksAt.lt {B D : Nat} {Ds : List Nat} {w : World} (h : MarksAt B Ds w) (hD : D ∈ Ds) : D < w.heap.size := (Array.getElem?_eq_some_iff.1 (h.2 D hD).2).1
theorem MarksAt.kept {B : Nat} {Ds : List Nat} {w w' : World} (h : MarksAt B Ds w) (hb : Below w.heap.size w w') : MarksAt B Ds w' :=
  ⟨h.1, fun D hD => ⟨(h.2 D hD).1, (hb.block D (h.lt hD)).trans (h.2 D hD).2⟩⟩
theorem MarksAt.grown {B : Nat} {Ds : List Nat} {w w' : World} {b : Nat} (h : MarksAt B Ds w) (hg : w.grownBy w' (some b)) (hb : ∀ D ∈ Ds, D ≠ b) : MarksAt B Ds w' :=
  ⟨h.1, fun D hD => ⟨(h.2 D hD).1, (hg.block D (h.lt hD) (fun e => hb D hD (by injection e))).trans (h.2 D hD).2⟩⟩
theorem MarksAt.cons {B D : Nat} {Ds : List Nat} {w : World} (h : MarksAt B Ds w) (hD : w.heap[D]? = some (.deferred (some []))) (hB : B ≤ D) (hne : ∀ D' ∈ Ds, D' ≠ D) : MarksAt B (D :: Ds) w :=
  ⟨List.nodup_cons.2 ⟨fun e => hne D e rfl, h.1⟩, fun D' hD' => by
    rcases List.mem_cons.1 hD' with rfl | e
    · exact ⟨hB, hD⟩
    · exact h.2 D' e⟩
/-- what a loop's body does to its own box alone -/
theorem own_box {β : Type} {w : World} {bs : Nat} (hbs : bs < w.heap.size) (f : β → Value) : OwnFrom w.heap.size (fun (s : β) W => w.grownBy W (some bs) ∧ W.cell? ⟨bs, 0, none⟩ = some (f s) ∧ W.frozen? ⟨bs, 0, none⟩ = false) := by
  intro s W W' row ⟨h1, h2, h3⟩ hg hr
  have hne : some bs ≠ row := fun e => by have := (hr bs e.symm).1; omega
  have hblk := hg.block bs (by have := h1.size; omega) hne
  refine ⟨⟨hg.os.trans h1.os, hg.tape.trans h1.tape, hg.output.trans h1.output, Nat.le_trans h1.size hg.size, fun k hk hk2 => (hg.block k (Nat.lt_of_lt_of_le hk h1.size) (fun e => by have := (hr k e.symm).1; omega)).trans (h1.block k hk hk2)⟩, ?_, ?_⟩
  · rw [World.cell?_of_block (a := ⟨bs, 0, none⟩) hblk]; exact h2
  · have : W'.frozen? ⟨bs, 0, none⟩ = W.frozen? ⟨bs, 0, none⟩ := by unfold World.frozen?; simp only [hblk]
    rw [this]; exact h3
theorem rI {F : Fence} {n : Nat} {P : Program} {fn : Func} {tmps : Array Value} {R : Ending → World → Prop} {w : World} {v : Value} (h : (results fn tmps).run P w = .ok v w) (hR : R (.returned v) w) : LeavesInM F n P fn tmps R [] .returning w := ⟨v, h, hR⟩
theorem grown_setS {w w' : World} {b : Nat} (h : w.grownBy w' (some b)) {p : Addr} (hp : p.block = b) (u : Value) : w.grownBy (w'.setCell p u) (some b) :=
  ⟨h.os, h.tape, h.output, by rw [World.size_setCell]; exact h.size, fun k hk hne => (Below.heap_setCell w' p u k (fun e => hne (by rw [e, hp]))).trans (h.block k hk hne)⟩
end Go.Proofs.Ytpjkcmmmpgncmaa
