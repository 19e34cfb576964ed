import Derived.RangeFuncNested
import Derived.RangeFuncBound
import Derived.RangeFuncCalls
import Derived.RangeFuncLeaves
import Derived.RangeFuncWrites
import Derived.RangeFuncBox
import Derived.Shelf.Abstract
import Derived.Shelf.RegionOpen
import Derived.WalkKit
import Derived.OwnWalkIn
import Derived.TacticsInMore
import Derived.LoopNIn
import Derived.LoopIn
import Derived.Test.YtpjkcmmmpgncmaaM01
import Derived.Lib.SmallJoins
import Derived.Test.YtpjkcmmmpgncmaaM20
import Derived.Test.YtpjkcmmmpgncmaaM03
import Derived.Test.YtpjkcmmmpgncmaaM13
/- Words for ranges over functions: what a round keeps, marks among the deferred calls, a function that leaves with marks. -/
namespace Go.Proofs.Ytpjkcmmmpgncmaa
open Go.RowKit Go.Shelf
attribute [local go_sem] Oper.semAt_some
/-- below N0 nothing has turned but block bs -/
def KpB (N0 bs : Nat) (W W' : World) : Prop := W.heap.size ≤ W'.heap.size ∧ ∀ k, k < N0 → k ≠ bs → W'.heap[k]? = W.heap[k]?
section
variable {N0 bs : Nat} {W W1 W2 : World}
theorem KpB.refl (N0 bs : Nat) (W : World) : KpB N0 bs W W := ⟨Nat.le_refl _, fun _ _ _ => rfl⟩
theorem KpB.trans (h : KpB N0 bs W W1) (h2 : KpB N0 bs W1 W2) : KpB N0 bs W W2 := ⟨Nat.le_trans h.1 h2.1, fun k hk hne => (h2.2 k hk hne).trans (h.2 k hk hne)⟩
theorem KpB.put {l : Nat} (hN : N0 ≤ l) (o' : Obj) : KpB N0 bs W (W.putObj l o') := ⟨by simp, fun k hk _ => World.putObj_heap_other (by omega)⟩
theorem KpB.cell (h : KpB N0 bs W W1) {p : Addr} (hp : p.block < N0) (hne : p.block ≠ bs) : W1.cell? p = W.cell? p := World.cell?_of_block (h.2 p.block hp hne)
theorem KpB.sl {α : Type} {enc : α → List Value} {k : Nat} {A : Option Addr} {l : List α} {w : World} (h : KpB N0 bs W W1) (hS : Sl enc k w A l) (hw : w.heap.size ≤ bs) (hN : bs < N0) (hW : Below w.heap.size w W) : Sl enc k W1 A l := by
  intro hl
  obtain ⟨b, o, rfl, hlt, hc⟩ := hS hl
  refine ⟨b, o, rfl, by have := h.1; have := hW.size; omega, fun i j x hx hj => ?_⟩
  rw [h.cell (by simp; omega) (by simp; omega), hW.cell (by simp; omega)]
  exact hc i j x hx hj
end
abbrev mkD (D : Nat) : Deferred := { target := .collected D, args := #[] }
def MarksAt (B : Nat) (Ds : List Nat) (w : World) : Prop := Ds.Nodup ∧ ∀ D ∈ Ds, B ≤ D ∧ w.heap[D]? = some (.deferred (some []))
theorem below_put {B D : Nat} (w : World) (o : Obj) (h : B ≤ D) : Below B w (w.putObj D o) := ⟨rfl, rfl, rfl, by simp, fun k hk => World.putObj_heap_other (by omega)⟩
theorem MarksAt.leaves {P : Program} {F : Fence} {n : Nat} {fn : Func} {tmps : Array Value} {R : Ending → World → Prop} {B : Nat} {v : Value} : ∀ (Ds : List Nat) (w : World), MarksAt B Ds w →
    (∀ w', Below B w w' → (results fn tmps).run P w' = .ok v w' ∧ R (.returned v) w') → LeavesInM F n P fn tmps R (Ds.map mkD) .returning w
  | [], w, _, hres => ⟨v, hres w (Below.refl _ _)⟩
  | D :: Ds, w, h, hres => by
    have hD := h.2 D (by simp)
    have hnd := List.nodup_cons.1 h.1
    refine ⟨by simp, .inl ⟨D, _, rfl, run_takeDeferred hD.2, MarksAt.leaves Ds _ ⟨hnd.2, fun D' hD' => ?_⟩ (fun w' hb => hres w' ((below_put w _ hD.1).trans hb))⟩⟩
    have h2 := h.2 D' (by simp [hD'])
    have hne : D' ≠ D := fun e => hnd.1 (e ▸ hD')
    exact ⟨h2.1, (World.putObj_heap_other hne).trans h2.2⟩
theorem MarksAt.nil (B : Nat) (w : World) : MarksAt B [] w := ⟨List.nodup_nil, fun _ h => by cases h⟩
theorem MarksAt.lt {B D : Nat} {Ds : List Nat} {w : World} (h : MarksAt B Ds w) (hD : D ∈ Ds) : D < w.heap.size := (Array.getElem?_eq_some_iff.1 (h.2 D hD).2).1
theorem MarksAt.kept {B : Nat} {Ds : List Nat} {w w' : World} (h : MarksAt B Ds w) (hb : Below w.heap.size w w') : MarksAt B Ds w' :=
  ⟨h.1, fun D hD => ⟨(h.2 D hD).1, (hb.block D (h.lt hD)).trans (h.2 D hD).2⟩⟩
theorem MarksAt.grown {B : Nat} {Ds : List Nat} {w w' : World} {b : Nat} (h : MarksAt B Ds w) (hg : w.grownBy w' (some b)) (hb : ∀ D ∈ Ds, D ≠ b) : MarksAt B Ds w' :=
  ⟨h.1, fun D hD => ⟨(h.2 D hD).1, (hg.block D (h.lt hD) (fun e => hb D hD (by injection e))).trans (h.2 D hD).2⟩⟩
theorem MarksAt.cons {B D : Nat} {Ds : List Nat} {w : World} (h : MarksAt B Ds w) (hD : w.heap[D]? = some (.deferred (some []))) (hB : B ≤ D) (hne : ∀ D' ∈ Ds, D' ≠ D) : MarksAt B (D :: Ds) w :=
  ⟨List.nodup_cons.2 ⟨fun e => hne D e rfl, h.1⟩, fun D' hD' => by
    rcases List.mem_cons.1 hD' with rfl | e
    · exact ⟨hB, hD⟩
    · exact h.2 D' e⟩
end Go.Proofs.Ytpjkcmmmpgncmaa
/- The program's VersAt. -/
namespace Go.Proofs.Ytpjkcmmmpgncmaa
open Go.RowKit Go.Shelf
attribute [local go_sem] Oper.semAt_some
open Classical in
def OwnR (w : World) (B : Nat) (v : Value) (R : List Row) : Prop := w.ownsRow B 111 2 v R.length (R.flatMap encRow)
theorem encRow_one (l : List Row) : ∀ u ∈ l.flatMap encRow, u.oneCell' = true := by
  intro u hu
  obtain ⟨x, _, hx⟩ := List.mem_flatMap.1 hu
  simp [encRow] at hx
  rcases hx with rfl | rfl <;> rfl
theorem slr_one {w : World} {g : Nat} {x : Row} (h : Blk w g 111 #[.string x.1, .int .i64 x.2]) : Sl encRow 2 w (some ⟨g, 0, none⟩) [x] := by
  intro _
  refine ⟨g, 0, rfl, h.lt, fun i j y hy hj => ?_⟩
  obtain ⟨rfl, rfl⟩ : i = 0 ∧ y = x := by
    cases i with
    | zero => simp at hy; exact ⟨rfl, hy.symm⟩
    | succ i => simp at hy
  simp only [Nat.zero_mul, Nat.zero_add]
  rw [h.cell]
  match j, hj with
  | 0, _ => rfl
  | 1, _ => rfl
theorem ownR_app {w : World} {B : Nat} {v : Value} {l m : List Row} (h : w.ownsRow B 111 2 v (l.length + m.length) (l.flatMap encRow ++ m.flatMap encRow)) : OwnR w B v (l ++ m) := by
  unfold OwnR; rw [List.length_append, List.flatMap_append]; exact h
theorem OwnR.sl {w : World} {B : Nat} {v : Value} {l : List Row} (h : OwnR w B v l) : ∃ A c, v = .slice A l.length c ∧ l.length ≤ c ∧ c ≤ maxLen ∧ Sl encRow 2 w A l := Sl.of_own encRow_len h
end Go.Proofs.Ytpjkcmmmpgncmaa
