import Derived.Test.YtpjkcmmmpgncmaaM06
import Derived.Test.YtpjkcmmmpgncmaaM02
import Derived.RangeFuncNested
import Derived.RangeFuncBound
import Derived.RangeFuncCalls
import Derived.RangeFuncLeaves
import Derived.RangeFuncWrites
import Derived.RangeFuncBox
import Derived.Shelf.Abstract
import Derived.Shelf.RegionOpen
import Derived.WalkKit
import Derived.OwnWalkIn
import Derived.TacticsInMore
import Derived.LoopNIn
import Derived.LoopIn
/- A version alone: whether it is right, whether it is visible at a time, whether it may stand ahead of another. -/
namespace Go.Proofs.Ytpjkcmmmpgncmaa
open Go.RowKit
/-- a version: key, number, from, to -/
abbrev Ver : Type := ByteArray × Int × Int × Int
def encVer (x : Ver) : List Value := [.string x.1, .int .i64 x.2.1, .int .i64 x.2.2.1, .int .i64 x.2.2.2]
theorem encVer_len (x : Ver) : (encVer x).length = 4 := rfl
def verB (x : Ver) (now : Int) : Bool := keyB x.1 && numB x.2.1 && decide (1 ≤ x.2.2.1) && decide (x.2.2.1 ≤ now) && (decide (x.2.2.2 = 0) || (decide (x.2.2.1 < x.2.2.2) && decide (x.2.2.2 ≤ now)))
def visB (x : Ver) (t : Int) : Bool := decide (x.2.2.1 ≤ t) && (decide (x.2.2.2 = 0) || decide (t < x.2.2.2))
def ltB (a b : ByteArray) : Bool := Op.bytesLess a.toList b.toList
def aheadB (a b : Ver) : Bool := if a.1 ≠ b.1 then ltB a.1 b.1 else decide (0 < a.2.2.2) && decide (a.2.2.2 ≤ b.2.2.1)
set_option maxHeartbeats 1000000 in
theorem specVerOk_any (x : Ver) (now : Int) (w : World) (hs : x.1.size ≤ maxLen) :
    Calls Try.prog 58 #[.agg #[.string x.1, .int .i64 x.2.1, .int .i64 x.2.2.1, .int .i64 x.2.2.2], .int .i64 now] w fun e w' => e = .returned (.bool (verB x now)) ∧ Below w.heap.size w w' := by
  obtain ⟨k, n, fr, to⟩ := x
  simp only at hs ⊢
  have hbw : ∀ o, Below w.heap.size w (w.alloc o) := fun o => (Below.refl _ _).alloc (Nat.le_refl _) _
  go_enter Try.func58, Try.ntmps58
  go_wp2_with (first
    | (go_at_call 104; refine (specKeyOk_any _ _ hs).mono ?_; rintro e w' ⟨rfl, rfl⟩)
    | (go_at_call 105; refine (specNumOk_any _ _).mono ?_; rintro e w' ⟨rfl, rfl⟩))
  all_goals
    go_ret
    exact ⟨ret_bool (by unfold verB; simp_all <;> omega), hbw _⟩
set_option maxHeartbeats 1000000 in
theorem ahead_any (x y : Ver) (w : World) :
    Calls Try.prog 59 #[.agg #[.string x.1, .int .i64 x.2.1, .int .i64 x.2.2.1, .int .i64 x.2.2.2], .agg #[.string y.1, .int .i64 y.2.1, .int .i64 y.2.2.1, .int .i64 y.2.2.2]] w fun e w' => e = .returned (.bool (aheadB x y)) ∧ Below w.heap.size w w' := by
  obtain ⟨k, n, fr, to⟩ := x
  obtain ⟨k2, n2, fr2, to2⟩ := y
  simp only
  have hbw : ∀ o p, Below w.heap.size w ((w.alloc o).alloc p) := fun o p => ((Below.refl _ _).alloc (Nat.le_refl _) _).alloc (by simp) _
  go_enter Try.func59, Try.ntmps59
  go_wp2
  all_goals
    go_ret
    exact ⟨ret_bool (by unfold aheadB ltB; simp_all [bytes_beq] <;> omega), hbw _ _⟩
end Go.Proofs.Ytpjkcmmmpgncmaa
/- When a store is right: plain words. -/
namespace Go.Proofs.Ytpjkcmmmpgncmaa
open Go.RowKit
abbrev Row : Type := ByteArray × Int
def encRow (x : Row) : List Value := [.string x.1, .int .i64 x.2]
theorem encRow_len (x : Row) : (encRow x).length = 2 := rfl
abbrev rowOf (x : Ver) : Row := (x.1, x.2.1)
def atL (l : List Ver) (t : Int) : List Row := (l.filter (fun x => visB x t)).map rowOf
def VersP (now : Int) (l : List Ver) : Prop :=
  (0 ≤ now ∧ now ≤ 40 ∧ l.length ≤ 60) ∧ (∀ i, i < l.length → ∀ x, l[i]? = some x → verB x now = true) ∧ (∀ i, i < l.length → ∀ x y, l[i]? = some x → l[i + 1]? = some y → aheadB x y = true) ∧ ∀ t : Nat, t < 41 → (t : Int) ≤ now → (atL l t).length ≤ 10
open Classical in
noncomputable def versB (now : Int) (l : List Ver) : Bool := decide (VersP now l)
theorem versB_yes {now : Int} {l : List Ver} (h : VersP now l) : versB now l = true := by unfold versB; simpa using h
theorem versB_no {now : Int} {l : List Ver} (h : ¬ VersP now l) : versB now l = false := by unfold versB; simpa using h
theorem versB_out {now : Int} {l : List Ver} (h : versB now l = true) : VersP now l := by unfold versB at h; simpa using h
theorem atL_take_yes {l : List Ver} {k : Nat} {t : Int} (h : k < l.length) (hv : visB l[k] t = true) : atL (l.take (k + 1)) t = atL (l.take k) t ++ [rowOf l[k]] := by
  unfold atL; rw [List.take_succ_eq_append_getElem h, List.filter_append, List.map_append]; simp [hv]
theorem atL_take_no {l : List Ver} {k : Nat} {t : Int} (h : k < l.length) (hv : visB l[k] t = false) : atL (l.take (k + 1)) t = atL (l.take k) t := by
  unfold atL; rw [List.take_succ_eq_append_getElem h, List.filter_append, List.map_append]; simp [hv]
theorem atL_le (l : List Ver) (t : Int) : (atL l t).length ≤ l.length := by unfold atL; rw [List.length_map]; exact List.length_filter_le _ _
def FitsV (l : List Ver) : Prop := l.length ≤ maxLen ∧ ∀ x ∈ l, x.1.size ≤ maxLen
end Go.Proofs.Ytpjkcmmmpgncmaa
/- Plain words: what a commit does to a store: the reference's way, the program's way, and that they are one where the store is right. -/
namespace Go.Proofs.Ytpjkcmmmpgncmaa
open Go.RowKit
/-- one version closed at a time, if it is of the key and still stands -/
def closeV (key : ByteArray) (now : Int) (x : Ver) : Ver := if x.1 = key ∧ x.2.2.2 = 0 then (x.1, x.2.1, x.2.2.1, now) else x
def closeL (key : ByteArray) (now : Int) (l : List Ver) : List Ver := l.map (closeV key now)
/-- the place behind the last version whose key is not greater -/
def atOf (key : ByteArray) (l : List Ver) : Nat := l.zipIdx.foldl (fun a p => if kLt key p.1.1 then a else p.2 + 1) 0
def insV (l : List Ver) (at_ : Nat) (w : Wri) (now : Int) : List Ver := if w.2.2 then l else l.take at_ ++ (w.1, w.2.1, now, 0) :: l.drop at_
/-- one write, the reference's way -/
def writeS (now : Int) (l : List Ver) (w : Wri) : List Ver := insV (closeL w.1 now l) (atOf w.1 l) w now
/-- all of a commit -/
def doS (now : Int) (l : List Ver) (ws : List Wri) : List Ver := ws.foldl (writeS now) l
theorem atOf_snoc (key : ByteArray) (l : List Ver) (x : Ver) : atOf key (l ++ [x]) = if kLt key x.1 then atOf key l else l.length + 1 := by
  unfold atOf; rw [List.zipIdx_append, List.foldl_append]; simp
theorem atOf_le (key : ByteArray) (l : List Ver) : atOf key l ≤ l.length := by
  have : ∀ r : List Ver, atOf key r.reverse ≤ r.reverse.length := fun r => by
    induction r with
    | nil => exact Nat.le_refl _
    | cons a r ih =>
      rw [List.reverse_cons, atOf_snoc]
      split
      · simp at ih ⊢; omega
      · simp
  have h := this l.reverse
  rwa [List.reverse_reverse] at h
theorem atOf_take (key : ByteArray) (l : List Ver) (k : Nat) (h : k < l.length) : atOf key (l.take (k+1)) = if kLt key l[k].1 then atOf key (l.take k) else k + 1 := by
  rw [List.take_succ_eq_append_getElem h, atOf_snoc, List.length_take, Nat.min_eq_left (by omega)]
theorem closeV_key (key : ByteArray) (now : Int) (x : Ver) : (closeV key now x).1 = x.1 := by unfold closeV; split <;> rfl
theorem closeL_len (key : ByteArray) (now : Int) (l : List Ver) : (closeL key now l).length = l.length := by simp [closeL]
theorem writeS_len (now : Int) (l : List Ver) (w : Wri) : (writeS now l w).length ≤ l.length + 1 := by
  unfold writeS insV
  split
  · rw [closeL_len]; omega
  · have := atOf_le w.1 l
    have h2 := closeL_len w.1 now l
    simp; omega
theorem writeS_fits {now : Int} {l : List Ver} {w : Wri} (hl : ∀ x ∈ l, x.1.size ≤ maxLen) (hw : w.1.size ≤ maxLen) : ∀ x ∈ writeS now l w, x.1.size ≤ maxLen := by
  have hc : ∀ x ∈ closeL w.1 now l, x.1.size ≤ maxLen := by
    intro x hx
    unfold closeL at hx
    obtain ⟨x0, h0, rfl⟩ := List.mem_map.1 hx
    rw [closeV_key]; exact hl x0 h0
  unfold writeS insV
  split
  · exact hc
  · intro x hx
    rw [List.mem_append, List.mem_cons] at hx
    rcases hx with hx | rfl | hx
    · exact hc x (List.mem_of_mem_take hx)
    · exact hw
    · exact hc x (List.mem_of_mem_drop hx)
end Go.Proofs.Ytpjkcmmmpgncmaa
/- Words for ranges over functions: what a round keeps, marks among the deferred calls, a function that leaves with marks. -/
namespace Go.Proofs.Ytpjkcmmmpgncmaa
open Go.RowKit Go.Shelf
attribute [local go_sem] Oper.semAt_some
/-- below N0 nothing has turned but block bs -/
def KpB (N0 bs : Nat) (W W' : World) : Prop := W.heap.size ≤ W'.heap.size ∧ ∀ k, k < N0 → k ≠ bs → W'.heap[k]? = W.heap[k]?
section
variable {N0 bs : Nat} {W W1 W2 : World}
theorem KpB.refl (N0 bs : Nat) (W : World) : KpB N0 bs W W := ⟨Nat.le_refl _, fun _ _ _ => rfl⟩
theorem KpB.trans (h : KpB N0 bs W W1) (h2 : KpB N0 bs W1 W2) : KpB N0 bs W W2 := ⟨Nat.le_trans h.1 h2.1, fun k hk hne => (h2.2 k hk hne).trans (h.2 k hk hne)⟩
theorem KpB.put {l : Nat} (hN : N0 ≤ l) (o' : Obj) : KpB N0 bs W (W.putObj l o') := ⟨by simp, fun k hk _ => World.putObj_heap_other (by omega)⟩
theorem KpB.cell (h : KpB N0 bs W W1) {p : Addr} (hp : p.block < N0) (hne : p.block ≠ bs) : W1.cell? p = W.cell? p := World.cell?_of_block (h.2 p.block hp hne)
theorem KpB.sl {α : Type} {enc : α → List Value} {k : Nat} {A : Option Addr} {l : List α} {w : World} (h : KpB N0 bs W W1) (hS : Sl enc k w A l) (hw : w.heap.size ≤ bs) (hN : bs < N0) (hW : Below w.heap.size w W) : Sl enc k W1 A l := by
  intro hl
  obtain ⟨b, o, rfl, hlt, hc⟩ := hS hl
  refine ⟨b, o, rfl, by have := h.1; have := hW.size; omega, fun i j x hx hj => ?_⟩
  rw [h.cell (by simp; omega) (by simp; omega), hW.cell (by simp; omega)]
  exact hc i j x hx hj
end
abbrev mkD (D : Nat) : Deferred := { target := .collected D, args := #[] }
def MarksAt (B : Nat) (Ds : List Nat) (w : World) : Prop := Ds.Nodup ∧ ∀ D ∈ Ds, B ≤ D ∧ w.heap[D]? = some (.deferred (some []))
theorem below_put {B D : Nat} (w : World) (o : Obj) (h : B ≤ D) : Below B w (w.putObj D o) := ⟨rfl, rfl, rfl, by simp, fun k hk => World.putObj_heap_other (by omega)⟩
theorem MarksAt.leaves {P : Program} {F : Fence} {n : Nat} {fn : Func} {tmps : Array Value} {R : Ending → World → Prop} {B : Nat} {v : Value} : ∀ (Ds : List Nat) (w : World), MarksAt B Ds w →
    (∀ w', Below B w w' → (results fn tmps).run P w' = .ok v w' ∧ R (.returned v) w') → LeavesInM F n P fn tmps R (Ds.map mkD) .returning w
  | [], w, _, hres => ⟨v, hres w (Below.refl _ _)⟩
  | D :: Ds, w, h, hres => by
    have hD := h.2 D (by simp)
    have hnd := List.nodup_cons.1 h.1
    refine ⟨by simp, .inl ⟨D, _, rfl, run_takeDeferred hD.2, MarksAt.leaves Ds _ ⟨hnd.2, fun D' hD' => ?_⟩ (fun w' hb => hres w' ((below_put w _ hD.1).trans hb))⟩⟩
    have h2 := h.2 D' (by simp [hD'])
    have hne : D' ≠ D := fun e => hnd.1 (e ▸ hD')
    exact ⟨h2.1, (World.putObj_heap_other hne).trans h2.2⟩
theorem MarksAt.nil (B : Nat) (w : World) : MarksAt B [] w := ⟨List.nodup_nil, fun _ h => by cases h⟩
theorem MarksAt.lt {B D : Nat} {Ds : List Nat} {w : World} (h : MarksAt B Ds w) (hD : D ∈ Ds) : D < w.heap.size := (Array.getElem?_eq_some_iff.1 (h.2 D hD).2).1
theorem MarksAt.kept {B : Nat} {Ds : List Nat} {w w' : World} (h : MarksAt B Ds w) (hb : Below w.heap.size w w') : MarksAt B Ds w' :=
  ⟨h.1, fun D hD => ⟨(h.2 D hD).1, (hb.block D (h.lt hD)).trans (h.2 D hD).2⟩⟩
theorem MarksAt.grown {B : Nat} {Ds : List Nat} {w w' : World} {b : Nat} (h : MarksAt B Ds w) (hg : w.grownBy w' (some b)) (hb : ∀ D ∈ Ds, D ≠ b) : MarksAt B Ds w' :=
  ⟨h.1, fun D hD => ⟨(h.2 D hD).1, (hg.block D (h.lt hD) (fun e => hb D hD (by injection e))).trans (h.2 D hD).2⟩⟩
theorem MarksAt.cons {B D : Nat} {Ds : List Nat} {w : World} (h : MarksAt B Ds w) (hD : w.heap[D]? = some (.deferred (some []))) (hB : B ≤ D) (hne : ∀ D' ∈ Ds, D' ≠ D) : MarksAt B (D :: Ds) w :=
  ⟨List.nodup_cons.2 ⟨fun e => hne D e rfl, h.1⟩, fun D' hD' => by
    rcases List.mem_cons.1 hD' with rfl | e
    · exact ⟨hB, hD⟩
    · exact h.2 D' e⟩
end Go.Proofs.Ytpjkcmmmpgncmaa
