import Derived.WalkKit
import Derived.WalkSpells
import Derived.WalkLawsBesides
import Derived.Lib.Hide
import Derived.Deep.QuietTactic
import Derived.BigQuiet
import Derived.Deep.Slices
import Derived.Deep.Fields
import Derived.Deep.LoopGhost
import Derived.ChangeSame
import Derived.ProofKit
import Derived.Test.YtpjkcmmmpgncmaaRows
import Derived.Maps.Own
import Derived.Maps.OwnOps
import Derived.Maps.Views
import Derived.BigGuardPart
import Derived.Maps.AppendAt
import Derived.Lib.Bytealg
/- Words for memory and small lemmas that every text of this seat uses: slices that read as lists, blocks known whole, drawn regions whose operations leave old memory alone. -/
namespace Go.Proofs.Ytpjkcmmmpgncmaa
open Go.RowKit

theorem ret_int {k : IntKind} {a b : Int} (h : a = b) : Ending.returned (.int k a) = .returned (.int k b) := by rw [h]
theorem ret_bool {a b : Bool} (h : a = b) : Ending.returned (.bool a) = .returned (.bool b) := by rw [h]
theorem vint {k : IntKind} {a b : Int} (h : a = b) : Value.int k a = .int k b := by rw [h]
theorem bytes_eq_iff (a b : ByteArray) : a.toList = b.toList ↔ a = b := by
  constructor
  · intro h
    have h' : a.data.toList = b.data.toList := by rw [← ByteArray.toList_eq, ← ByteArray.toList_eq]; exact h
    cases a; cases b; simp at h'; simp [h']
  · intro h; rw [h]
theorem bytes_beq (a b : ByteArray) : (a.toList == b.toList) = decide (a = b) := by
  rw [Bool.eq_iff_iff]; simp [bytes_eq_iff]

/-! a region that draws its order, whose operations leave alone what was there -/
theorem wp_region_below {P : Program} {id : Nat} {Q : Exit → Act → World → Prop} {a : Act} {w : World} {l : List Oper} (hm : P.follows .mixedOrders = true) (hB : Region.lexB .any l.toArray = true)
    (h : wpQuiet P l.toArray (fun w' => Below w.heap.size w w') (fun a' => ∀ w', Below w.heap.size w w' → Q .normal a' w') l a) : (Code.region id l.toArray true).wp P Q a w :=
  wp_region_quiet (C := fun w' => Below w.heap.size w w') hm hB (Below.refl w.heap.size w).drew (by simpa using h)
theorem quiet_call {P : Program} {f : FuncId} {args : Array Value} {w w' : World} {v : Value} {B : Nat} (hb : Below B w w') (hB : B ≤ w.heap.size)
    (h : Calls P f args w' fun e w'' => e = .returned v ∧ Below w'.heap.size w' w'') : Calls P f args w' fun e w'' => e = .returned v ∧ Below B w w'' :=
  h.mono fun _ _ ⟨he, hm⟩ => ⟨he, hb.trans (hm.mono (Nat.le_trans hB hb.size))⟩

theorem bthen {w w1 w2 : World} (h : Below w.heap.size w w1) (h2 : Below w1.heap.size w1 w2) : Below w.heap.size w w2 := h.trans (h2.mono h.size)

/-! a slice value '.slice A l.length c' reads as the rows enc x, x in l, of k cells each -/
def Sl {α : Type} (enc : α → List Value) (k : Nat) (w : World) (A : Option Addr) (l : List α) : Prop :=
  0 < l.length → ∃ b o, A = some ⟨b, o, none⟩ ∧ b < w.heap.size ∧ ∀ i j x, l[i]? = some x → j < k → w.cell? ⟨b, o + i * k + j, none⟩ = (enc x)[j]?
section
variable {α : Type} {enc : α → List Value} {k : Nat} {w w' : World} {A : Option Addr} {l : List α}
theorem Sl.mono (h : Sl enc k w A l) {B : Nat} (hB : w.heap.size ≤ B) (hb : Below B w w') : Sl enc k w' A l := by
  intro hl
  obtain ⟨b, o, rfl, hlt, hc⟩ := h hl
  exact ⟨b, o, rfl, Nat.lt_of_lt_of_le hlt hb.size, fun i j x hx hj => by rw [hb.cell (by simp; omega)]; exact hc i j x hx hj⟩
theorem Sl.below (h : Sl enc k w A l) (hb : Below w.heap.size w w') : Sl enc k w' A l := h.mono (Nat.le_refl _) hb
theorem Sl.nil (enc : α → List Value) (k : Nat) (w : World) (A : Option Addr) : Sl enc k w A [] := fun h => absurd h (by simp)
theorem Sl.at1 {f : α → Value} (h : Sl (fun x => [f x]) 1 w A l) {i : Nat} (hi : i < l.length) :
    ∃ b o, A = some ⟨b, o, none⟩ ∧ b < w.heap.size ∧ w.cell? ⟨b, o + i, none⟩ = some (f l[i]) := by
  obtain ⟨b, o, rfl, hB, hc⟩ := h (by omega)
  have h0 := hc i 0 _ (List.getElem?_eq_getElem hi) (by omega)
  simp only [Nat.mul_one, Nat.add_zero] at h0
  exact ⟨b, o, rfl, hB, h0⟩
theorem Sl.at2 {f g : α → Value} (h : Sl (fun x => [f x, g x]) 2 w A l) {i : Nat} (hi : i < l.length) :
    ∃ b o, A = some ⟨b, o, none⟩ ∧ b < w.heap.size ∧ w.cell? ⟨b, o + i * 2, none⟩ = some (f l[i]) ∧ w.cell? ⟨b, o + i * 2 + 1, none⟩ = some (g l[i]) := by
  obtain ⟨b, o, rfl, hB, hc⟩ := h (by omega)
  exact ⟨b, o, rfl, hB, hc i 0 _ (List.getElem?_eq_getElem hi) (by omega), hc i 1 _ (List.getElem?_eq_getElem hi) (by omega)⟩
theorem Sl.at3 {f g p : α → Value} (h : Sl (fun x => [f x, g x, p x]) 3 w A l) {i : Nat} (hi : i < l.length) :
    ∃ b o, A = some ⟨b, o, none⟩ ∧ b < w.heap.size ∧ w.cell? ⟨b, o + i * 3, none⟩ = some (f l[i]) ∧ w.cell? ⟨b, o + i * 3 + 1, none⟩ = some (g l[i]) ∧ w.cell? ⟨b, o + i * 3 + 2, none⟩ = some (p l[i]) := by
  obtain ⟨b, o, rfl, hB, hc⟩ := h (by omega)
  exact ⟨b, o, rfl, hB, hc i 0 _ (List.getElem?_eq_getElem hi) (by omega), hc i 1 _ (List.getElem?_eq_getElem hi) (by omega), hc i 2 _ (List.getElem?_eq_getElem hi) (by omega)⟩
theorem Sl.at4 {f g p q : α → Value} (h : Sl (fun x => [f x, g x, p x, q x]) 4 w A l) {i : Nat} (hi : i < l.length) :
    ∃ b o, A = some ⟨b, o, none⟩ ∧ b < w.heap.size ∧ w.cell? ⟨b, o + i * 4, none⟩ = some (f l[i]) ∧ w.cell? ⟨b, o + i * 4 + 1, none⟩ = some (g l[i]) ∧ w.cell? ⟨b, o + i * 4 + 2, none⟩ = some (p l[i]) ∧
      w.cell? ⟨b, o + i * 4 + 3, none⟩ = some (q l[i]) := by
  obtain ⟨b, o, rfl, hB, hc⟩ := h (by omega)
  exact ⟨b, o, rfl, hB, hc i 0 _ (List.getElem?_eq_getElem hi) (by omega), hc i 1 _ (List.getElem?_eq_getElem hi) (by omega), hc i 2 _ (List.getElem?_eq_getElem hi) (by omega), hc i 3 _ (List.getElem?_eq_getElem hi) (by omega)⟩
end

/-! a block that is known whole -/
def Blk (w : World) (g : Nat) (t : TypeId) (cs : Array Value) : Prop := w.heap[g]? = some (.cells cs t (0, 0))
section
variable {w w' : World} {g : Nat} {t : TypeId} {cs : Array Value}
theorem Blk.lt (h : Blk w g t cs) : g < w.heap.size := by
  rcases Nat.lt_or_ge g w.heap.size with hlt | hge
  · exact hlt
  · unfold Blk at h; rw [Array.getElem?_eq_none hge] at h; cases h
theorem Blk.cell (h : Blk w g t cs) (i : Nat) : w.cell? ⟨g, i, none⟩ = cs[i]? := cell_of_row w g i cs t (0, 0) h
theorem Blk.at_ (h : Blk w g t cs) {i : Nat} (hi : i < cs.size) : w.cell? ⟨g, i, none⟩ = some cs[i] := (h.cell i).trans (Array.getElem?_eq_getElem hi)
theorem Blk.frozen (h : Blk w g t cs) (i : Nat) : w.frozen? ⟨g, i, none⟩ = false := by
  unfold Blk at h
  simp [World.frozen?, h]
theorem Blk.new (w : World) (t : TypeId) (cs : Array Value) : Blk (w.alloc (.cells cs t)) w.heap.size t cs := heap_alloc_new w _
theorem Blk.drew (h : Blk w g t cs) : Blk w.drew g t cs := h
theorem Blk.alloc (h : Blk w g t cs) (o : Obj) : Blk (w.alloc o) g t cs := (Below.heap_alloc w o g h.lt).trans h
theorem Blk.set_ (h : Blk w g t cs) (i : Nat) (u : Value) : Blk (w.setCell ⟨g, i, none⟩ u) g t (cs.setIfInBounds i u) := by
  unfold Blk at h ⊢
  simp [World.setCell, Array.getElem?_modify, h]
theorem Blk.far (h : Blk w g t cs) {p : Addr} (hp : g ≠ p.block) (u : Value) : Blk (w.setCell p u) g t cs := (Below.heap_setCell w p u g hp).trans h
theorem Blk.below {B : Nat} (h : Blk w g t cs) (hb : Below B w w') (hg : g < B) : Blk w' g t cs := (hb.block g hg).trans h
theorem Blk.kept (h : Blk w g t cs) (hb : Below w.heap.size w w') : Blk w' g t cs := h.below hb h.lt
theorem Blk.grown {row : Option Nat} (h : Blk w g t cs) (hb : w.grownBy w' row) (hg : some g ≠ row) : Blk w' g t cs := (hb.block g h.lt hg).trans h
end
/-- both cells of a block of two are stored: what is read afterwards, as the walk spells it -/
theorem Blk.two {w : World} {g : Nat} {t : TypeId} {a b : Value} (h : Blk w g t #[a, b]) (u v : Value) :
    (w.setCell ⟨g, 0, none⟩ u).cell? ⟨g, 0, none⟩ = some u ∧ ((w.setCell ⟨g, 0, none⟩ u).setCell ⟨g, 1, none⟩ v).cell? ⟨g, 1, none⟩ = some v :=
  ⟨(h.set_ 0 u).cell 0, ((h.set_ 0 u).set_ 1 v).cell 1⟩
/-- a block with n rows of k cells of which the first are written is an owned row -/
theorem own_of_blk {w : World} {g : Nat} {t : TypeId} {cs : Array Value} {base n k : Nat} {xs : List Value} (h : Blk w g t cs) (hb : base ≤ g) (hn : n ≤ maxLen) (hs : cs.size = n * k) (hx : cs.toList = xs) :
    w.ownsRow base t k (.slice (some ⟨g, 0, none⟩) n n) n xs :=
  ⟨by rw [← hx, ← hs]; simp, .inr ⟨g, n, cs, rfl, hb, h, Nat.le_refl _, hn, hs, by rw [← hs, ← hx, List.take_of_length_le (by simp)]⟩⟩
theorem flat_get {α : Type} {enc : α → List Value} {k : Nat} (henc : ∀ x, (enc x).length = k) : ∀ (l : List α) (i j : Nat) (x : α), l[i]? = some x → j < k → (l.flatMap enc)[i * k + j]? = (enc x)[j]?
  | [], i, j, x, hx, _ => by simp at hx
  | y :: ys, 0, j, x, hx, hj => by
    simp at hx; subst hx
    rw [List.flatMap_cons, List.getElem?_append_left (by rw [henc]; omega)]; simp
  | y :: ys, i + 1, j, x, hx, hj => by
    simp at hx
    rw [List.flatMap_cons, List.getElem?_append_right (by rw [henc, Nat.add_mul]; omega), henc, ← flat_get henc ys i j x hx hj]
    congr 1
    rw [Nat.add_mul]; omega
theorem flat_len {α : Type} {enc : α → List Value} {k : Nat} (henc : ∀ x, (enc x).length = k) (l : List α) : (l.flatMap enc).length = l.length * k := by
  induction l with
  | nil => simp
  | cons x l ih => rw [List.flatMap_cons, List.length_append, ih, henc, List.length_cons, Nat.add_mul]; omega
/-- the first m rows of l lie in cs -/
def Rws {α : Type} (enc : α → List Value) (k : Nat) (cs : Array Value) (l : List α) (m : Nat) : Prop :=
  ∀ i j x, l[i]? = some x → i < m → j < k → cs[i * k + j]? = (enc x)[j]?
section
variable {α : Type} {enc : α → List Value} {k m : Nat} {cs : Array Value} {l : List α}
theorem Rws.zero : Rws enc k cs l 0 := fun _ _ _ _ h _ => absurd h (by omega)
theorem Rws.done (henc : ∀ x, (enc x).length = k) (hs : cs.size = l.length * k) (h : Rws enc k cs l l.length) : cs.toList = l.flatMap enc := by
  rcases Nat.eq_zero_or_pos k with hk | hk
  · subst hk
    have h1 : cs.toList = [] := List.eq_nil_of_length_eq_zero (by simpa using hs)
    have h2 : l.flatMap enc = [] := List.eq_nil_of_length_eq_zero (by rw [flat_len henc]; simp)
    rw [h1, h2]
  · apply List.ext_getElem?
    intro p
    by_cases hp : p < l.length * k
    · have hi : p / k < l.length := Nat.div_lt_of_lt_mul (by rw [Nat.mul_comm]; exact hp)
      have hj : p % k < k := Nat.mod_lt _ hk
      have e : p / k * k + p % k = p := by rw [Nat.mul_comm]; exact Nat.div_add_mod p k
      have h1 := h (p / k) (p % k) _ (List.getElem?_eq_getElem hi) hi hj
      have h2 := flat_get henc l (p / k) (p % k) _ (List.getElem?_eq_getElem hi) hj
      rw [e] at h1 h2
      rw [h2, ← h1]; simp
    · rw [List.getElem?_eq_none (by simp; omega), List.getElem?_eq_none (by rw [flat_len henc]; omega)]
end
/-- a row that the call owns reads as a list -/
theorem Sl.of_own {α : Type} {enc : α → List Value} {k : Nat} {w : World} {base : Nat} {e : TypeId} {v : Value} {l : List α} (henc : ∀ x, (enc x).length = k) (h : w.ownsRow base e k v l.length (l.flatMap enc)) :
    ∃ A c, v = .slice A l.length c ∧ l.length ≤ c ∧ c ≤ maxLen ∧ Sl enc k w A l := by
  rcases h.2 with ⟨rfl, h0⟩ | ⟨g, cap, cur, rfl, hb, hh, hn, hm, hs, ht⟩
  · have hl := List.eq_nil_of_length_eq_zero h0
    subst hl
    exact ⟨none, 0, rfl, by simp, by simp [maxLen], Sl.nil _ _ _ _⟩
  · refine ⟨_, cap, rfl, hn, hm, fun hl => ⟨g, 0, rfl, Blk.lt (t := e) hh, fun i j x hx hj => ?_⟩⟩
    have hi : i < l.length := (List.getElem?_eq_some_iff.1 hx).1
    have hij : i * k + j < l.length * k := by
      have : (i + 1) * k ≤ l.length * k := Nat.mul_le_mul_right _ hi
      rw [Nat.add_mul] at this; omega
    rw [Nat.zero_add, Blk.cell (t := e) hh]
    have h1 : cur[i * k + j]? = (cur.toList.take (l.length * k))[i * k + j]? := by rw [List.getElem?_take, if_pos hij]; simp
    rw [h1, ht]
    exact flat_get henc l i j x hx hj

/-! An argument that is a slice of structs of one-cell fields (after the page extra-structs, section 1). -/
section
open Go.ChangeShapes Go.WideShapes Go.Deep
variable {H : Type} {enc : TypeId × Value → H} {P : Program} {w : World} {base : Nat} {spare : Nat → Bool} {held : Bool}
end
theorem list_of_each {α : Type} {Q : Nat → α → Prop} : ∀ n : Nat, (∀ i, i < n → ∃ x, Q i x) → ∃ l : List α, l.length = n ∧ ∀ i x, l[i]? = some x → Q i x
  | 0, _ => ⟨[], rfl, fun i x h => by simp at h⟩
  | n + 1, h => by
    obtain ⟨l, hl, hq⟩ := list_of_each n (fun i hi => h i (by omega))
    obtain ⟨x, hx⟩ := h n (by omega)
    refine ⟨l ++ [x], by simp [hl], fun i y hy => ?_⟩
    by_cases hi : i < l.length
    · rw [List.getElem?_append_left hi] at hy; exact hq i y hy
    · rw [List.getElem?_append_right (by omega)] at hy
      have h0 : i - l.length = 0 := by
        rcases Nat.eq_zero_or_pos (i - l.length) with h0 | h0
        · exact h0
        · rw [List.getElem?_eq_none (by simp; omega)] at hy; cases hy
      rw [h0] at hy; simp at hy; subst hy
      obtain rfl : i = n := by omega
      exact hx
/-- an argument's slice, its cells known one by one -/
theorem Sl.of_cells {α : Type} {enc : α → List Value} {k n : Nat} {w : World} {a : Addr} {Good : α → Prop} (hk : 0 < k) (henc : ∀ x, (enc x).length = k)
    (h : ∀ i, i < n → ∃ x, Good x ∧ ∀ j, j < k → w.cell? (a.add (i * k + j)) = (enc x)[j]?) : ∃ l : List α, l.length = n ∧ (∀ x ∈ l, Good x) ∧ Sl enc k w (some a) l := by
  obtain ⟨l, hl, hq⟩ := list_of_each n h
  refine ⟨l, hl, fun x hx => ?_, fun hp => ?_⟩
  · obtain ⟨i, hi⟩ := List.getElem?_of_mem hx
    exact (hq i x hi).1
  · obtain ⟨b, o, spot⟩ := a
    have h0 := (hq 0 _ (List.getElem?_eq_getElem hp)).2 0 hk
    have hs : spot = none := by
      have e0 : (enc l[0])[0]? = some ((enc l[0])[0]'(by rw [henc]; exact hk)) := List.getElem?_eq_getElem _
      rw [e0] at h0
      simpa [Addr.add] using World.cell?_spot h0
    subst hs
    refine ⟨b, o, rfl, ?_, fun i j x hx hj => ?_⟩
    · have e0 : (enc l[0])[0]? = some ((enc l[0])[0]'(by rw [henc]; exact hk)) := List.getElem?_eq_getElem _
      rw [e0] at h0
      rcases Nat.lt_or_ge b w.heap.size with hlt | hge
      · exact hlt
      · simp [Addr.add, World.cell?, Array.getElem?_eq_none hge] at h0
    · have h1 := (hq i x hx).2 j hj
      rw [Go.WideShapes.add_plain] at h1
      rw [Nat.add_assoc]; exact h1
section
open Go.RowKit Go.WideShapes Go.ChangeShapes
variable {H : Type} {enc : TypeId × Value → H} {P : Program}
end
end Go.Proofs.Ytpjkcmmmpgncmaa
/- What a letter is, as data. -/
namespace Go.Proofs.Ytpjkcmmmpgncmaa
open Go.RowKit
abbrev Let : Type := ByteArray × ByteArray
def encLet (x : Let) : List Value := [.string x.1, .string x.2]
theorem encLet_len (x : Let) : (encLet x).length = 2 := rfl
def FitsL (l : List Let) : Prop := l.length ≤ maxLen ∧ ∀ x ∈ l, x.1.size ≤ maxLen ∧ x.2.size ≤ maxLen
end Go.Proofs.Ytpjkcmmmpgncmaa
/- The laws' helpers on lists of letters: their size, their copies. -/
namespace Go.Proofs.Ytpjkcmmmpgncmaa
open Go.RowKit
theorem infoLet : (Try.prog.info? 94).map (fun i => (i.zero, i.size, i.bytes)) = some (some (.agg #[.string ⟨#[]⟩, .string ⟨#[]⟩]), 2, 32) := by kernel_rfl
end Go.Proofs.Ytpjkcmmmpgncmaa
/- The two GramMany: each counts the letters of the signs C, E and Z. -/
namespace Go.Proofs.Ytpjkcmmmpgncmaa
open Go.RowKit Go.Maps Go.WideMaps
def cntS (s : List UInt8) (l : List Let) : Nat := l.countP (fun x => x.1.toList == s)
theorem cntS_take (s : List UInt8) (l : List Let) (k : Nat) (h : k < l.length) : cntS s (l.take (k+1)) = cntS s (l.take k) + (if (l[k].1.toList == s) = true then 1 else 0) := by
  unfold cntS; rw [List.take_succ_eq_append_getElem h, List.countP_append, List.countP_singleton]
theorem cntS_le (s : List UInt8) (l : List Let) : cntS s l ≤ l.length := List.countP_le_length
theorem beq_other {a b c : List UInt8} (h : (a == b) = true) (hne : b ≠ c) : (a == c) = false := by
  rw [eq_of_beq h]; exact beq_eq_false_iff_ne.2 hne
set_option maxRecDepth 100000 in
set_option maxHeartbeats 400000 in
theorem specGramMany_any (A : Option Addr) (l : List Let) (c : Nat) (w : World) (hn : l.length ≤ 1048576) (hR : Sl encLet 2 w A l) :
    Calls Try.prog 23 #[.slice A l.length c] w fun e w' => e = .returned (.tuple #[.int .i64 (cntS [67] l), .int .i64 (cntS [69] l), .int .i64 (cntS [90] l)]) ∧ Below w.heap.size w w' := by
  go_enter Try.func23, Try.ntmps23
  go_wp2
  go_loopw [5, 6, 7, 8] (fun a b d i wr => ∃ k : Nat, k ≤ l.length ∧ i = .int .i64 k ∧ a = .int .i64 (cntS [67] (l.take k)) ∧ b = .int .i64 (cntS [69] (l.take k)) ∧ d = .int .i64 (cntS [90] (l.take k)) ∧ Below w.heap.size w wr) (fun _ _ _ i _ => l.length - (intOf i).toNat)
  case atStart => exact ⟨0, by omega, rfl, rfl, rfl, rfl, Below.refl _ _⟩
  case round =>
    obtain ⟨k, hk, rfl, rfl, rfl, rfl, hb⟩ := hrel
    have l1 := cntS_le [67] (l.take k)
    have l2 := cntS_le [69] (l.take k)
    have l3 := cntS_le [90] (l.take k)
    have l4 : (l.take k).length ≤ k := List.length_take_le _ _
    by_cases hlt : k < l.length
    · obtain ⟨b, o, rfl, hbl, c0, c1⟩ := Sl.at2 (hR.below hb) hlt
      have HM := Lib.hid (⟨cntS_take [67] l k hlt, cntS_take [69] l k hlt, cntS_take [90] l k hlt⟩ : _ ∧ _ ∧ _)
      generalize l[k] = x at *
      clear hR
      go_wp2
      · have h1 : (x.1.toList == [67]) = true := by assumption
        obtain ⟨e1, e2, e3⟩ := HM.out
        rw [h1] at e1; rw [beq_other h1 (by decide)] at e2 e3
        go_roundw
        case rel => exact ⟨k + 1, by omega, by go_num, vint (by rw [e1]; simp), vint (by rw [e2]; simp), vint (by rw [e3]; simp), hb⟩
        case measure => simp [intOf]; omega
      · have h1 : (x.1.toList == [67]) = false := by assumption
        have h2 : (x.1.toList == [69]) = true := by assumption
        obtain ⟨e1, e2, e3⟩ := HM.out
        rw [h1] at e1; rw [h2] at e2; rw [beq_other h2 (by decide)] at e3
        go_roundw
        case rel => exact ⟨k + 1, by omega, by go_num, vint (by rw [e1]; simp), vint (by rw [e2]; simp), vint (by rw [e3]; simp), hb⟩
        case measure => simp [intOf]; omega
      · have h1 : (x.1.toList == [67]) = false := by assumption
        have h2 : (x.1.toList == [69]) = false := by assumption
        have h3 : (x.1.toList == [90]) = true := by assumption
        obtain ⟨e1, e2, e3⟩ := HM.out
        rw [h1] at e1; rw [h2] at e2; rw [h3] at e3
        go_roundw
        case rel => exact ⟨k + 1, by omega, by go_num, vint (by rw [e1]; simp), vint (by rw [e2]; simp), vint (by rw [e3]; simp), hb⟩
        case measure => simp [intOf]; omega
      · have h1 : (x.1.toList == [67]) = false := by assumption
        have h2 : (x.1.toList == [69]) = false := by assumption
        have h3 : (x.1.toList == [90]) = false := by assumption
        obtain ⟨e1, e2, e3⟩ := HM.out
        rw [h1] at e1; rw [h2] at e2; rw [h3] at e3
        go_roundw
        case rel => exact ⟨k + 1, by omega, by go_num, vint (by rw [e1]; simp), vint (by rw [e2]; simp), vint (by rw [e3]; simp), hb⟩
        case measure => simp [intOf]; omega
    · obtain rfl : k = l.length := by omega
      go_wp2
      go_ret3
      exact ⟨by simp, hb⟩

/-! the program's: a map of counts -/
theorem keyStr : Keyed Try.prog 9 := string_keyed Try.underlying9
theorem zeroInt (w : World) : (zeroValue 3).run Try.prog w = .ok (.int .i64 0) w := by kernel_rfl
theorem own_below {w w' : World} {P : Program} {k : TypeId} {H : Type} {R : Value → Option (DataW H × List MemPlace)} {b n : Nat} {D : DataW H} (h : w.ownsMap P k R b n D) (hb : Below w.heap.size w w') : w'.ownsMap P k R b n D :=
  h.kept (row := none) ⟨hb.os, hb.tape, hb.output, hb.size, fun i hi _ => hb.block i hi⟩ (by simp)
abbrev vi (n : Int) : DataW Unit := .lit (.int .i64 n)
/-- the map D counts the letters of l by their signs -/
def Counts (D : DataW Unit) (l : List Let) : Prop := IsMap D ∧ ∀ s : List UInt8, D.atKey (.string s) (vi 0) = vi (cntS s l)
theorem Counts.none_ : Counts (.map []) [] := ⟨isMap_empty, fun _ => rfl⟩
theorem toList_data (s : ByteArray) : s.toList = s.data.toList := ByteArray.toList_eq _
theorem Counts.step {D : DataW Unit} {l : List Let} {k : Nat} (h : Counts D (l.take k)) (hk : k < l.length) {c : Int} (hat : D.atKey (.string l[k].1.data.toList) (vi 0) = vi c) :
    c = cntS l[k].1.toList (l.take k) ∧ Counts (D.put (.string l[k].1.data.toList) (vi (c + 1))) (l.take (k + 1)) := by
  have hc : c = cntS l[k].1.toList (l.take k) := by
    have := h.2 l[k].1.data.toList
    rw [hat] at this
    injection this with this; injection this with _ this
    rw [this, toList_data]
  refine ⟨hc, h.1.put _ _, fun s => ?_⟩
  rw [cntS_take s l k hk]
  by_cases hs : l[k].1.data.toList = s
  · subst hs
    rw [atKey_put_same h.1 (by first | trivial | exact ⟨_, rfl⟩ | simp [WideAt.IsKeyLit]), hc, toList_data]; simp
  · rw [atKey_put_other (by intro e; injection e with e; exact hs e.symm), h.2 s, if_neg (by rw [toList_data]; simpa using hs)]
    simp
set_option maxRecDepth 100000 in
set_option maxHeartbeats 800000 in
theorem implGramMany_any (A : Option Addr) (l : List Let) (c : Nat) (w : World) (hn : l.length ≤ 1048576) (hf : FitsL l) (hR : Sl encLet 2 w A l) :
    Calls Try.prog 22 #[.slice A l.length c] w fun e w' => e = .returned (.tuple #[.int .i64 (cntS [67] l), .int .i64 (cntS [69] l), .int .i64 (cntS [90] l)]) ∧ Below w.heap.size w w' := by
  have hmm := @run_makeMap Try.prog
  go_enter Try.func22, Try.ntmps22
  go_wp2
  go_loopw [11] (fun i wr => ∃ (k : Nat) (D : DataW Unit), k ≤ l.length ∧ i = .int .i64 k ∧ wr.ownsMap Try.prog 9 (plainElem Try.prog 3) w.heap.size k D ∧ Counts D (l.take k) ∧ Below w.heap.size w wr) (fun i _ => l.length - (intOf i).toNat)
  case atStart => exact ⟨0, _, by omega, rfl, World.ownsMap_made _ _ _ _, Counts.none_, (Below.refl _ _).alloc (Nat.le_refl _) _⟩
  case round =>
    obtain ⟨k, D, hk, rfl, hown, hC, hb⟩ := hrel
    by_cases hlt : k < l.length
    · obtain ⟨b, o, rfl, hbl, c0, c1⟩ := Sl.at2 (hR.below hb) hlt
      obtain ⟨hx1, hx2⟩ := hf.2 l[k] (by simp)
      have hkey : keyOf Try.prog 9 (.string l[k].1) = some (.string l[k].1.data.toList) := keyOf_string_mk Try.underlying9 hx1
      obtain ⟨c, hrun, hat, hwc⟩ := (hown.alloc (.cells #[.string l[k].1, .string l[k].2] 94)).lookup_int keyStr Try.underlying92 Try.underlying3 (zeroInt _) hkey
      obtain ⟨hcc, hC'⟩ := hC.step hlt hat
      have hle := cntS_le l[k].1.toList (l.take k)
      have hle2 : (l.take k).length ≤ k := List.length_take_le _ _
      have hc0 : 0 ≤ c := by omega
      have hc1 : c ≤ 1048576 := by omega
      have HC := Lib.hid hC'
      generalize l[k] = x at *
      clear hR hf hcc hat hC hC' hx1 hx2 hle hle2
      go_wp2_with (at_mapUpdate; refine wpList_mapUpdate_own _ rfl _ _ _ 92 rfl 9 3 keyStr Try.underlying92 _ w.heap.size k _ rfl (hown.alloc _) (by unfold maxLen; omega) _ _ _ rfl rfl hkey _ [] (plainElem_int Try.underlying3 (WalkArith.wf_i64 (by omega))) ?_; intro w1 hown1 hgrow1)
      go_roundw
      case rel => exact ⟨k + 1, _, by omega, by go_num, hown1, HC.out, (hb.alloc hb.size _).grown hgrow1 (by simp; have := hb.size; omega) (by intro j hj; cases hj; exact Nat.le_refl _)⟩
      case measure => simp [intOf]; omega
    · obtain rfl : k = l.length := by omega
      rw [List.take_length] at hC
      have hkey : ∀ n : UInt8, keyOf Try.prog 9 (.string ⟨#[n]⟩) = some (.string [n]) := fun n => keyOf_string_mk Try.underlying9 (by simp [maxLen, ByteArray.size])
      have hlk : ∀ W, Below wr.heap.size wr W → ∀ n : UInt8, (Instr.lookup 92 (.map (some w.heap.size)) (.string ⟨#[n]⟩) false).run Try.prog W = .ok (.int .i64 (cntS [n] l)) W := by
        intro W hW n
        obtain ⟨c, hrun, hat, _⟩ := (own_below hown hW).lookup_int keyStr Try.underlying92 Try.underlying3 (zeroInt _) (hkey n)
        have := hC.2 [n]
        rw [hat] at this
        injection this with this; injection this with _ this
        rw [hrun, this]
      have HK := Lib.hid hlk
      clear hlk hkey
      go_wp2
      refine wp_region_below (by kernel_rfl) (by kernel_rfl) ?_
      iterate 9 (refine wpQuiet_step (fun K hK => ?_); go_simp; first | (apply Exists.intro; refine ⟨fun W hW => ?_, hK _ ?_⟩; (first | rfl | (have hlk := fun n => HK.out W hW n; go_simp; rfl)); clear hK K) | (refine hK _ ?_; clear hK K))
      refine wpQuiet_nil ?_
      intro W hW
      go_wp2
      go_ret3
      exact ⟨rfl, bthen hb hW⟩
end Go.Proofs.Ytpjkcmmmpgncmaa
/- Small contracts of the letters' chapter: which bytes may stand where. -/
namespace Go.Proofs.Ytpjkcmmmpgncmaa
open Go.RowKit
def sgnB (c : Int) : Bool := decide ((65 ≤ c ∧ c ≤ 90) ∨ (48 ≤ c ∧ c ≤ 57))
def bodB (c : Int) : Bool := decide (32 ≤ c ∧ c ≤ 126)
set_option maxHeartbeats 400000 in
theorem specBody_any (c : Int) (w : World) (h0 : 0 ≤ c) (h1 : c ≤ 255) :
    Calls Try.prog 162 #[.int .u8 c] w fun e w' => e = .returned (.bool (bodB c)) ∧ w = w' := by
  by_cases a : 32 ≤ c <;> by_cases b : c ≤ 126
  all_goals
    go_enter Try.func162, Try.ntmps162
    go_wp2
    go_ret
    exact ⟨ret_bool (by unfold bodB; simp <;> omega), rfl⟩
set_option maxHeartbeats 400000 in
theorem specSign_any (c : Int) (w : World) (h0 : 0 ≤ c) (h1 : c ≤ 255) :
    Calls Try.prog 161 #[.int .u8 c] w fun e w' => e = .returned (.bool (sgnB c)) ∧ w = w' := by
  by_cases a : 65 ≤ c <;> by_cases b : c ≤ 90 <;> by_cases a2 : 48 ≤ c <;> by_cases b2 : c ≤ 57
  all_goals first
    | (exfalso; omega)
    | (go_enter Try.func161, Try.ntmps161
       go_wp2
       go_ret
       exact ⟨ret_bool (by unfold sgnB; simp <;> omega), rfl⟩)
end Go.Proofs.Ytpjkcmmmpgncmaa
/- More words for memory: owned rows over a callee that leaves old memory alone, new blocks as sources of append. -/
namespace Go.Proofs.Ytpjkcmmmpgncmaa
open Go.RowKit
theorem own_kept {w w' : World} {base : Nat} {e : TypeId} {k n : Nat} {v : Value} {xs : List Value} (h : w.ownsRow base e k v n xs) (hb : Below w.heap.size w w') : w'.ownsRow base e k v n xs := by
  refine ⟨h.1, ?_⟩
  rcases h.2 with h2 | ⟨g, cap, cur, hv, hg, hh, r⟩
  · exact .inl h2
  · exact .inr ⟨g, cap, cur, hv, hg, (hb.block g (Blk.lt (t := e) hh)).trans hh, r⟩
theorem new_cells (w : World) (xs : List Value) (t : TypeId) : ∀ j u, xs[j]? = some u → (w.alloc (.cells xs.toArray t)).cell? ((⟨w.heap.size, 0, none⟩ : Addr).add j) = some u := by
  intro j u hj
  rw [Go.WideShapes.add_plain, Nat.zero_add, (Blk.new w t xs.toArray).cell j]
  simpa using hj
theorem below_own {w w' : World} {B : Nat} {row : Option Nat} (hb : Below B w w') {w2 : World} (hg : w'.grownBy w2 row) (hB : B ≤ w'.heap.size) (hr : ∀ k, row = some k → B ≤ k) : Below B w w2 := hb.grown hg hB hr
end Go.Proofs.Ytpjkcmmmpgncmaa
/- Plain words: the order of texts by their bytes. -/
namespace Go.Proofs.Ytpjkcmmmpgncmaa
open Go.RowKit
theorem bl_irrefl : ∀ l : List UInt8, Op.bytesLess l l = false
  | [] => rfl
  | a :: l => by
    unfold Op.bytesLess
    rw [bl_irrefl l]; simp
theorem bl_nil (l : List UInt8) : Op.bytesLess l [] = false := by cases l <;> rfl
theorem bl_cons (a b : UInt8) (l r : List UInt8) : Op.bytesLess (a :: l) (b :: r) = true ↔ a.toNat < b.toNat ∨ (a = b ∧ Op.bytesLess l r = true) := by
  rw [Op.bytesLess]
  simp [UInt8.lt_iff_toNat_lt]
theorem bl_trans : ∀ {a b c : List UInt8}, Op.bytesLess a b = true → Op.bytesLess b c = true → Op.bytesLess a c = true
  | _, _, [], _, h => by rw [bl_nil] at h; cases h
  | _, [], _ :: _, h, _ => by rw [bl_nil] at h; cases h
  | [], _ :: _, _ :: _, _, _ => rfl
  | a :: l, b :: r, c :: s, h, h2 => by
    rw [bl_cons] at h h2 ⊢
    rcases h with h | ⟨rfl, h⟩
    · rcases h2 with h2 | ⟨rfl, h2⟩
      · left; omega
      · left; exact h
    · rcases h2 with h2 | ⟨rfl, h2⟩
      · left; exact h2
      · right; exact ⟨rfl, bl_trans h h2⟩
theorem bl_tri : ∀ (a b : List UInt8), Op.bytesLess a b = false → Op.bytesLess b a = false → a = b
  | [], [], _, _ => rfl
  | [], _ :: _, h, _ => by rw [Op.bytesLess] at h; cases h
  | _ :: _, [], _, h => by rw [Op.bytesLess] at h; cases h
  | a :: l, b :: r, h, h2 => by
    have h1 := fun e => (Bool.eq_false_iff.1 h) ((bl_cons a b l r).2 e)
    have h3 := fun e => (Bool.eq_false_iff.1 h2) ((bl_cons b a r l).2 e)
    have hab : a = b := by
      apply UInt8.toNat_inj.1
      have e1 : ¬ a.toNat < b.toNat := fun e => h1 (.inl e)
      have e2 : ¬ b.toNat < a.toNat := fun e => h3 (.inl e)
      omega
    subst hab
    rw [bl_tri l r (Bool.eq_false_iff.2 (fun e => h1 (.inr ⟨rfl, e⟩))) (Bool.eq_false_iff.2 (fun e => h3 (.inr ⟨rfl, e⟩)))]
theorem bl_asym {a b : List UInt8} (h : Op.bytesLess a b = true) : Op.bytesLess b a = false := by
  rw [Bool.eq_false_iff]; intro h2
  have := bl_trans h h2
  rw [bl_irrefl] at this; cases this
/-- the order of texts -/
def kLt (a b : ByteArray) : Prop := Op.bytesLess a.toList b.toList = true
theorem kLt_irrefl (a : ByteArray) : ¬ kLt a a := by unfold kLt; rw [bl_irrefl]; simp
theorem kLt_trans {a b c : ByteArray} (h : kLt a b) (h2 : kLt b c) : kLt a c := bl_trans h h2
theorem kLt_tri {a b : ByteArray} (h : ¬ kLt a b) (h2 : ¬ kLt b a) : a = b := (bytes_eq_iff _ _).1 (bl_tri _ _ (by simpa [kLt] using h) (by simpa [kLt] using h2))
theorem kLt_asym {a b : ByteArray} (h : kLt a b) : ¬ kLt b a := by unfold kLt; rw [bl_asym h]; simp
instance (a b : ByteArray) : Decidable (kLt a b) := by unfold kLt; exact inferInstance
end Go.Proofs.Ytpjkcmmmpgncmaa
/- Plain words: a text cut at a byte: the pieces; a text of two pieces is one that is cut once. -/
namespace Go.Proofs.Ytpjkcmmmpgncmaa
open Go.RowKit
theorem snoc_rec {α : Type} {P : List α → Prop} (h0 : P []) (h1 : ∀ l x, P l → P (l ++ [x])) (l : List α) : P l := by
  have : ∀ r : List α, P r.reverse := fun r => by
    induction r with
    | nil => exact h0
    | cons a r ih => rw [List.reverse_cons]; exact h1 _ _ ih
  rw [← List.reverse_reverse l]; exact this _
/-- what is cut so far: the pieces that are over, and the one that has begun -/
def cutSt (c : UInt8) (l : List UInt8) : List (List UInt8) × List UInt8 := l.foldl (fun p x => if x = c then (p.1 ++ [p.2], []) else (p.1, p.2 ++ [x])) ([], [])
def pieces (c : UInt8) (l : List UInt8) : List (List UInt8) := (cutSt c l).1 ++ [(cutSt c l).2]
theorem cutSt_snoc (c : UInt8) (l : List UInt8) (x : UInt8) : cutSt c (l ++ [x]) = if x = c then ((cutSt c l).1 ++ [(cutSt c l).2], []) else ((cutSt c l).1, (cutSt c l).2 ++ [x]) := by
  unfold cutSt; rw [List.foldl_append]; rfl
theorem cutSt_take (c : UInt8) (l : List UInt8) (k : Nat) (h : k < l.length) : cutSt c (l.take (k+1)) = if l[k] = c then ((cutSt c (l.take k)).1 ++ [(cutSt c (l.take k)).2], []) else ((cutSt c (l.take k)).1, (cutSt c (l.take k)).2 ++ [l[k]]) := by
  rw [List.take_succ_eq_append_getElem h, cutSt_snoc]
/-- the piece that has begun is the text's end -/
theorem cutSt_tail (c : UInt8) (l : List UInt8) : (cutSt c l).2.length ≤ l.length ∧ (cutSt c l).2 = l.drop (l.length - (cutSt c l).2.length) := by
  induction l using snoc_rec with
  | h0 => exact ⟨Nat.le_refl _, rfl⟩
  | h1 l x ih =>
    rw [cutSt_snoc]
    by_cases h : x = c
    · rw [if_pos h]; simp
    · rw [if_neg h]
      obtain ⟨h1, h2⟩ := ih
      refine ⟨by simp; omega, ?_⟩
      simp only [List.length_append, List.length_cons, List.length_nil]
      rw [show l.length + (0 + 1) - ((cutSt c l).2.length + (0 + 1)) = l.length - (cutSt c l).2.length by omega, List.drop_append_of_le_length (by omega), ← h2]
end Go.Proofs.Ytpjkcmmmpgncmaa
