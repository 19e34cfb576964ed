/- Words for memory and small lemmas that every text of this seat uses: slices that read as lists, blocks known whole, drawn regions whose operations leave old memory alone. -/
import Derived.WalkKit
import Derived.WalkSpells
import Derived.WalkLawsBesides
import Derived.Lib.Hide
import Derived.Deep.QuietTactic
import Derived.BigQuiet
import Derived.Deep.Slices
import Derived.Deep.Fields
import Derived.Deep.LoopGhost
import Derived.ChangeSame
import Derived.ProofKit
namespace Go.Proofs.Ytpjkcmmmpgncmaa
open Go.RowKit

theorem ret_int {k : IntKind} {a b : Int} (h : a = b) : Ending.returned (.int k a) = .returned (.int k b) := by rw [h]
theorem ret_bool {a b : Bool} (h : a = b) : Ending.returned (.bool a) = .returned (.bool b) := by rw [h]
theorem ret_str {a b : ByteArray} (h : a = b) : Ending.returned (.string a) = .returned (.string b) := by rw [h]
/-- the length of a string in a slot: for a loop's measure -/
def strLen : Value → Nat | .string s => s.size | _ => 0
theorem vint {k : IntKind} {a b : Int} (h : a = b) : Value.int k a = .int k b := by rw [h]
theorem bytes_eq_iff (a b : ByteArray) : a.toList = b.toList ↔ a = b := by
  constructor
  · intro h
    have h' : a.data.toList = b.data.toList := by rw [← ByteArray.toList_eq, ← ByteArray.toList_eq]; exact h
    cases a; cases b; simp at h'; simp [h']
  · intro h; rw [h]
theorem bytes_beq (a b : ByteArray) : (a.toList == b.toList) = decide (a = b) := by
  rw [Bool.eq_iff_iff]; simp [bytes_eq_iff]

/-- equality as a Bool that simp does not look into -/
def eqB {α : Type} [DecidableEq α] (x y : α) : Bool := decide (x = y)
theorem eqB_yes {α : Type} [DecidableEq α] {x y : α} (h : x = y) : eqB x y = true := by unfold eqB; simp [h]
theorem eqB_ne {α : Type} [DecidableEq α] {x y : α} (h : (!eqB x y) = true) : x ≠ y := by unfold eqB at h; simpa using h
theorem eqB_eq {α : Type} [DecidableEq α] {x y : α} (h : (!eqB x y) = false) : x = y := by unfold eqB at h; simpa using h
theorem eqB_no {α : Type} [DecidableEq α] {x y : α} (h : x ≠ y) : eqB x y = false := by unfold eqB; simp [h]

/-! a region that draws its order, whose operations leave alone what was there -/
theorem wp_region_below {P : Program} {id : Nat} {Q : Exit → Act → World → Prop} {a : Act} {w : World} {l : List Oper} (hm : P.follows .mixedOrders = true) (hB : Region.lexB .any l.toArray = true)
    (h : wpQuiet P l.toArray (fun w' => Below w.heap.size w w') (fun a' => ∀ w', Below w.heap.size w w' → Q .normal a' w') l a) : (Code.region id l.toArray true).wp P Q a w :=
  wp_region_quiet (C := fun w' => Below w.heap.size w w') hm hB (Below.refl w.heap.size w).drew (by simpa using h)
theorem quiet_call {P : Program} {f : FuncId} {args : Array Value} {w w' : World} {v : Value} {B : Nat} (hb : Below B w w') (hB : B ≤ w.heap.size)
    (h : Calls P f args w' fun e w'' => e = .returned v ∧ Below w'.heap.size w' w'') : Calls P f args w' fun e w'' => e = .returned v ∧ Below B w w'' :=
  h.mono fun _ _ ⟨he, hm⟩ => ⟨he, hb.trans (hm.mono (Nat.le_trans hB hb.size))⟩

theorem quiet_id {P : Program} {f : FuncId} {args : Array Value} {w w' : World} {v : Value} {B : Nat} (hb : Below B w w')
    (h : Calls P f args w' fun e w'' => e = .returned v ∧ w' = w'') : Calls P f args w' fun e w'' => e = .returned v ∧ Below B w w'' :=
  h.mono fun _ _ ⟨he, hm⟩ => ⟨he, hm ▸ hb⟩
theorem below_drewN (B : Nat) (w : World) (n : Nat) : Below B w (w.drewN n) := ⟨rfl, rfl, rfl, Nat.le_refl _, fun _ _ => rfl⟩
theorem bthen {w w1 w2 : World} (h : Below w.heap.size w w1) (h2 : Below w1.heap.size w1 w2) : Below w.heap.size w w2 := h.trans (h2.mono h.size)

/-! a slice value '.slice A l.length c' reads as the rows enc x, x in l, of k cells each -/
def Sl {α : Type} (enc : α → List Value) (k : Nat) (w : World) (A : Option Addr) (l : List α) : Prop :=
  0 < l.length → ∃ b o, A = some ⟨b, o, none⟩ ∧ b < w.heap.size ∧ ∀ i j x, l[i]? = some x → j < k → w.cell? ⟨b, o + i * k + j, none⟩ = (enc x)[j]?
section
variable {α : Type} {enc : α → List Value} {k : Nat} {w w' : World} {A : Option Addr} {l : List α}
theorem Sl.mono (h : Sl enc k w A l) {B : Nat} (hB : w.heap.size ≤ B) (hb : Below B w w') : Sl enc k w' A l := by
  intro hl
  obtain ⟨b, o, rfl, hlt, hc⟩ := h hl
  exact ⟨b, o, rfl, Nat.lt_of_lt_of_le hlt hb.size, fun i j x hx hj => by rw [hb.cell (by simp; omega)]; exact hc i j x hx hj⟩
theorem Sl.below (h : Sl enc k w A l) (hb : Below w.heap.size w w') : Sl enc k w' A l := h.mono (Nat.le_refl _) hb
theorem Sl.nil (enc : α → List Value) (k : Nat) (w : World) (A : Option Addr) : Sl enc k w A [] := fun h => absurd h (by simp)
theorem Sl.at1 {f : α → Value} (h : Sl (fun x => [f x]) 1 w A l) {i : Nat} (hi : i < l.length) :
    ∃ b o, A = some ⟨b, o, none⟩ ∧ b < w.heap.size ∧ w.cell? ⟨b, o + i, none⟩ = some (f l[i]) := by
  obtain ⟨b, o, rfl, hB, hc⟩ := h (by omega)
  have h0 := hc i 0 _ (List.getElem?_eq_getElem hi) (by omega)
  simp only [Nat.mul_one, Nat.add_zero] at h0
  exact ⟨b, o, rfl, hB, h0⟩
theorem Sl.at2 {f g : α → Value} (h : Sl (fun x => [f x, g x]) 2 w A l) {i : Nat} (hi : i < l.length) :
    ∃ b o, A = some ⟨b, o, none⟩ ∧ b < w.heap.size ∧ w.cell? ⟨b, o + i * 2, none⟩ = some (f l[i]) ∧ w.cell? ⟨b, o + i * 2 + 1, none⟩ = some (g l[i]) := by
  obtain ⟨b, o, rfl, hB, hc⟩ := h (by omega)
  exact ⟨b, o, rfl, hB, hc i 0 _ (List.getElem?_eq_getElem hi) (by omega), hc i 1 _ (List.getElem?_eq_getElem hi) (by omega)⟩
theorem Sl.at3 {f g p : α → Value} (h : Sl (fun x => [f x, g x, p x]) 3 w A l) {i : Nat} (hi : i < l.length) :
    ∃ b o, A = some ⟨b, o, none⟩ ∧ b < w.heap.size ∧ w.cell? ⟨b, o + i * 3, none⟩ = some (f l[i]) ∧ w.cell? ⟨b, o + i * 3 + 1, none⟩ = some (g l[i]) ∧ w.cell? ⟨b, o + i * 3 + 2, none⟩ = some (p l[i]) := by
  obtain ⟨b, o, rfl, hB, hc⟩ := h (by omega)
  exact ⟨b, o, rfl, hB, hc i 0 _ (List.getElem?_eq_getElem hi) (by omega), hc i 1 _ (List.getElem?_eq_getElem hi) (by omega), hc i 2 _ (List.getElem?_eq_getElem hi) (by omega)⟩
theorem Sl.at4 {f g p q : α → Value} (h : Sl (fun x => [f x, g x, p x, q x]) 4 w A l) {i : Nat} (hi : i < l.length) :
    ∃ b o, A = some ⟨b, o, none⟩ ∧ b < w.heap.size ∧ w.cell? ⟨b, o + i * 4, none⟩ = some (f l[i]) ∧ w.cell? ⟨b, o + i * 4 + 1, none⟩ = some (g l[i]) ∧ w.cell? ⟨b, o + i * 4 + 2, none⟩ = some (p l[i]) ∧
      w.cell? ⟨b, o + i * 4 + 3, none⟩ = some (q l[i]) := by
  obtain ⟨b, o, rfl, hB, hc⟩ := h (by omega)
  exact ⟨b, o, rfl, hB, hc i 0 _ (List.getElem?_eq_getElem hi) (by omega), hc i 1 _ (List.getElem?_eq_getElem hi) (by omega), hc i 2 _ (List.getElem?_eq_getElem hi) (by omega), hc i 3 _ (List.getElem?_eq_getElem hi) (by omega)⟩
end

/-! a block that is known whole -/
def Blk (w : World) (g : Nat) (t : TypeId) (cs : Array Value) : Prop := w.heap[g]? = some (.cells cs t (0, 0))
section
variable {w w' : World} {g : Nat} {t : TypeId} {cs : Array Value}
theorem Blk.lt (h : Blk w g t cs) : g < w.heap.size := by
  rcases Nat.lt_or_ge g w.heap.size with hlt | hge
  · exact hlt
  · unfold Blk at h; rw [Array.getElem?_eq_none hge] at h; cases h
theorem Blk.cell (h : Blk w g t cs) (i : Nat) : w.cell? ⟨g, i, none⟩ = cs[i]? := cell_of_row w g i cs t (0, 0) h
theorem Blk.at_ (h : Blk w g t cs) {i : Nat} (hi : i < cs.size) : w.cell? ⟨g, i, none⟩ = some cs[i] := (h.cell i).trans (Array.getElem?_eq_getElem hi)
theorem Blk.frozen (h : Blk w g t cs) (i : Nat) : w.frozen? ⟨g, i, none⟩ = false := by
  unfold Blk at h
  simp [World.frozen?, h]
theorem Blk.new (w : World) (t : TypeId) (cs : Array Value) : Blk (w.alloc (.cells cs t)) w.heap.size t cs := heap_alloc_new w _
theorem Blk.drew (h : Blk w g t cs) : Blk w.drew g t cs := h
theorem Blk.alloc (h : Blk w g t cs) (o : Obj) : Blk (w.alloc o) g t cs := (Below.heap_alloc w o g h.lt).trans h
theorem Blk.set_ (h : Blk w g t cs) (i : Nat) (u : Value) : Blk (w.setCell ⟨g, i, none⟩ u) g t (cs.setIfInBounds i u) := by
  unfold Blk at h ⊢
  simp [World.setCell, Array.getElem?_modify, h]
theorem Blk.far (h : Blk w g t cs) {p : Addr} (hp : g ≠ p.block) (u : Value) : Blk (w.setCell p u) g t cs := (Below.heap_setCell w p u g hp).trans h
theorem Blk.below {B : Nat} (h : Blk w g t cs) (hb : Below B w w') (hg : g < B) : Blk w' g t cs := (hb.block g hg).trans h
theorem Blk.kept (h : Blk w g t cs) (hb : Below w.heap.size w w') : Blk w' g t cs := h.below hb h.lt
theorem Blk.grown {row : Option Nat} (h : Blk w g t cs) (hb : w.grownBy w' row) (hg : some g ≠ row) : Blk w' g t cs := (hb.block g h.lt hg).trans h
end
/-- both cells of a block of two are stored: what is read afterwards, as the walk spells it -/
theorem Blk.two {w : World} {g : Nat} {t : TypeId} {a b : Value} (h : Blk w g t #[a, b]) (u v : Value) :
    (w.setCell ⟨g, 0, none⟩ u).cell? ⟨g, 0, none⟩ = some u ∧ ((w.setCell ⟨g, 0, none⟩ u).setCell ⟨g, 1, none⟩ v).cell? ⟨g, 1, none⟩ = some v :=
  ⟨(h.set_ 0 u).cell 0, ((h.set_ 0 u).set_ 1 v).cell 1⟩
/-- a block with n rows of k cells of which the first are written is an owned row -/
theorem own_of_blk {w : World} {g : Nat} {t : TypeId} {cs : Array Value} {base n k : Nat} {xs : List Value} (h : Blk w g t cs) (hb : base ≤ g) (hn : n ≤ maxLen) (hs : cs.size = n * k) (hx : cs.toList = xs) :
    w.ownsRow base t k (.slice (some ⟨g, 0, none⟩) n n) n xs :=
  ⟨by rw [← hx, ← hs]; simp, .inr ⟨g, n, cs, rfl, hb, h, Nat.le_refl _, hn, hs, by rw [← hs, ← hx, List.take_of_length_le (by simp)]⟩⟩
theorem run_make_rowN {P : Program} (t e : TypeId) (i : TypeInfo) (z : Value) (ht : P.underlying t = some (.slice e)) (hi : P.info? e = some i) (hz : i.zero = some z)
    (kl kc : IntKind) (n c : Nat) (hnc : n ≤ c) (hbytes : i.bytes * c ≤ 281474976710656) (h63 : c ≤ 9223372036854775807) (w : World) :
    (Instr.makeSlice t (.int kl (n : Int)) (.int kc (c : Int))).run P w = .ok (.slice (some ⟨w.heap.size, 0, none⟩) n c) (w.alloc (.cells (madeCells z.cells (c * i.size)) e)) := by
  have hb : (i.bytes : Int) * (c : Int) ≤ 281474976710656 := by
    have h : ((i.bytes * c : Nat) : Int) ≤ 281474976710656 := by omega
    rwa [Int.natCast_mul] at h
  have hr := run_make (P := P) w t e i z ht hi hz kl kc n c (by omega) (by omega) hb (by omega)
  simp only [Int.toNat_natCast] at hr
  exact hr
theorem flat_get {α : Type} {enc : α → List Value} {k : Nat} (henc : ∀ x, (enc x).length = k) : ∀ (l : List α) (i j : Nat) (x : α), l[i]? = some x → j < k → (l.flatMap enc)[i * k + j]? = (enc x)[j]?
  | [], i, j, x, hx, _ => by simp at hx
  | y :: ys, 0, j, x, hx, hj => by
    simp at hx; subst hx
    rw [List.flatMap_cons, List.getElem?_append_left (by rw [henc]; omega)]; simp
  | y :: ys, i + 1, j, x, hx, hj => by
    simp at hx
    rw [List.flatMap_cons, List.getElem?_append_right (by rw [henc, Nat.add_mul]; omega), henc, ← flat_get henc ys i j x hx hj]
    congr 1
    rw [Nat.add_mul]; omega
theorem flat_len {α : Type} {enc : α → List Value} {k : Nat} (henc : ∀ x, (enc x).length = k) (l : List α) : (l.flatMap enc).length = l.length * k := by
  induction l with
  | nil => simp
  | cons x l ih => rw [List.flatMap_cons, List.length_append, ih, henc, List.length_cons, Nat.add_mul]; omega
/-- the first m rows of l lie in cs -/
def Rws {α : Type} (enc : α → List Value) (k : Nat) (cs : Array Value) (l : List α) (m : Nat) : Prop :=
  ∀ i j x, l[i]? = some x → i < m → j < k → cs[i * k + j]? = (enc x)[j]?
section
variable {α : Type} {enc : α → List Value} {k m : Nat} {cs : Array Value} {l : List α}
theorem Rws.zero : Rws enc k cs l 0 := fun _ _ _ _ h _ => absurd h (by omega)
theorem Rws.done (henc : ∀ x, (enc x).length = k) (hs : cs.size = l.length * k) (h : Rws enc k cs l l.length) : cs.toList = l.flatMap enc := by
  rcases Nat.eq_zero_or_pos k with hk | hk
  · subst hk
    have h1 : cs.toList = [] := List.eq_nil_of_length_eq_zero (by simpa using hs)
    have h2 : l.flatMap enc = [] := List.eq_nil_of_length_eq_zero (by rw [flat_len henc]; simp)
    rw [h1, h2]
  · apply List.ext_getElem?
    intro p
    by_cases hp : p < l.length * k
    · have hi : p / k < l.length := Nat.div_lt_of_lt_mul (by rw [Nat.mul_comm]; exact hp)
      have hj : p % k < k := Nat.mod_lt _ hk
      have e : p / k * k + p % k = p := by rw [Nat.mul_comm]; exact Nat.div_add_mod p k
      have h1 := h (p / k) (p % k) _ (List.getElem?_eq_getElem hi) hi hj
      have h2 := flat_get henc l (p / k) (p % k) _ (List.getElem?_eq_getElem hi) hj
      rw [e] at h1 h2
      rw [h2, ← h1]; simp
    · rw [List.getElem?_eq_none (by simp; omega), List.getElem?_eq_none (by rw [flat_len henc]; omega)]
theorem row_ne {i m j t k : Nat} (hi : i < m) (hj : j < k) : m * k + t ≠ i * k + j := by
  have : (i + 1) * k ≤ m * k := Nat.mul_le_mul_right _ hi
  rw [Nat.add_mul] at this; omega
theorem Rws.step1 {x : α} {a : Value} (h : Rws enc 1 cs l m) (hx : l[m]? = some x) (hs : cs.size = l.length * 1) (he : enc x = [a]) : Rws enc 1 (cs.setIfInBounds m a) l (m + 1) := by
  intro i j y hy hi hj
  have hm : m < l.length := (List.getElem?_eq_some_iff.1 hx).1
  obtain rfl : j = 0 := by omega
  simp only [Nat.mul_one, Nat.add_zero] at *
  rw [Array.getElem?_setIfInBounds]
  by_cases hmi : i < m
  · rw [if_neg (by omega)]
    have := h i 0 y hy hmi (by omega)
    simpa using this
  · obtain rfl : i = m := by omega
    rw [hx] at hy; cases hy
    rw [if_pos rfl, if_pos (by omega), he]; rfl
theorem Rws.step2 {x : α} {a b : Value} (h : Rws enc 2 cs l m) (hx : l[m]? = some x) (hs : cs.size = l.length * 2) (he : enc x = [a, b]) : Rws enc 2 ((cs.setIfInBounds (m * 2) a).setIfInBounds (m * 2 + 1) b) l (m + 1) := by
  intro i j y hy hi hj
  have hm : m < l.length := (List.getElem?_eq_some_iff.1 hx).1
  rw [Array.getElem?_setIfInBounds, Array.getElem?_setIfInBounds]
  by_cases hmi : i < m
  · rw [if_neg (row_ne hmi hj), if_neg (by have := row_ne (t := 0) hmi hj; omega)]
    exact h i j y hy hmi hj
  · obtain rfl : i = m := by omega
    rw [hx] at hy; cases hy
    match j, hj with
    | 0, _ => rw [if_neg (by omega), if_pos (by omega), if_pos (by omega), he]; rfl
    | 1, _ => rw [if_pos rfl, if_pos (by simp; omega), he]; rfl
theorem Rws.step3 {x : α} {a b c : Value} (h : Rws enc 3 cs l m) (hx : l[m]? = some x) (hs : cs.size = l.length * 3) (he : enc x = [a, b, c]) :
    Rws enc 3 (((cs.setIfInBounds (m * 3) a).setIfInBounds (m * 3 + 1) b).setIfInBounds (m * 3 + 2) c) l (m + 1) := by
  intro i j y hy hi hj
  have hm : m < l.length := (List.getElem?_eq_some_iff.1 hx).1
  rw [Array.getElem?_setIfInBounds, Array.getElem?_setIfInBounds, Array.getElem?_setIfInBounds]
  by_cases hmi : i < m
  · rw [if_neg (row_ne hmi hj), if_neg (row_ne hmi hj), if_neg (by have := row_ne (t := 0) hmi hj; omega)]
    exact h i j y hy hmi hj
  · obtain rfl : i = m := by omega
    rw [hx] at hy; cases hy
    match j, hj with
    | 0, _ => rw [if_neg (by omega), if_neg (by omega), if_pos (by omega), if_pos (by omega), he]; rfl
    | 1, _ => rw [if_neg (by omega), if_pos rfl, if_pos (by simp; omega), he]; rfl
    | 2, _ => rw [if_pos rfl, if_pos (by simp; omega), he]; rfl
theorem Rws.step4 {x : α} {a b c d : Value} (h : Rws enc 4 cs l m) (hx : l[m]? = some x) (hs : cs.size = l.length * 4) (he : enc x = [a, b, c, d]) :
    Rws enc 4 ((((cs.setIfInBounds (m * 4) a).setIfInBounds (m * 4 + 1) b).setIfInBounds (m * 4 + 2) c).setIfInBounds (m * 4 + 3) d) l (m + 1) := by
  intro i j y hy hi hj
  have hm : m < l.length := (List.getElem?_eq_some_iff.1 hx).1
  rw [Array.getElem?_setIfInBounds, Array.getElem?_setIfInBounds, Array.getElem?_setIfInBounds, Array.getElem?_setIfInBounds]
  by_cases hmi : i < m
  · rw [if_neg (row_ne hmi hj), if_neg (row_ne hmi hj), if_neg (row_ne hmi hj), if_neg (by have := row_ne (t := 0) hmi hj; omega)]
    exact h i j y hy hmi hj
  · obtain rfl : i = m := by omega
    rw [hx] at hy; cases hy
    match j, hj with
    | 0, _ => rw [if_neg (by omega), if_neg (by omega), if_neg (by omega), if_pos (by omega), if_pos (by omega), he]; rfl
    | 1, _ => rw [if_neg (by omega), if_neg (by omega), if_pos rfl, if_pos (by simp; omega), he]; rfl
    | 2, _ => rw [if_neg (by omega), if_pos rfl, if_pos (by simp; omega), he]; rfl
    | 3, _ => rw [if_pos rfl, if_pos (by simp; omega), he]; rfl
end
/-- a row that the call owns reads as a list -/
theorem Sl.of_own {α : Type} {enc : α → List Value} {k : Nat} {w : World} {base : Nat} {e : TypeId} {v : Value} {l : List α} (henc : ∀ x, (enc x).length = k) (h : w.ownsRow base e k v l.length (l.flatMap enc)) :
    ∃ A c, v = .slice A l.length c ∧ l.length ≤ c ∧ c ≤ maxLen ∧ Sl enc k w A l := by
  rcases h.2 with ⟨rfl, h0⟩ | ⟨g, cap, cur, rfl, hb, hh, hn, hm, hs, ht⟩
  · have hl := List.eq_nil_of_length_eq_zero h0
    subst hl
    exact ⟨none, 0, rfl, by simp, by simp [maxLen], Sl.nil _ _ _ _⟩
  · refine ⟨_, cap, rfl, hn, hm, fun hl => ⟨g, 0, rfl, Blk.lt (t := e) hh, fun i j x hx hj => ?_⟩⟩
    have hi : i < l.length := (List.getElem?_eq_some_iff.1 hx).1
    have hij : i * k + j < l.length * k := by
      have : (i + 1) * k ≤ l.length * k := Nat.mul_le_mul_right _ hi
      rw [Nat.add_mul] at this; omega
    rw [Nat.zero_add, Blk.cell (t := e) hh]
    have h1 : cur[i * k + j]? = (cur.toList.take (l.length * k))[i * k + j]? := by rw [List.getElem?_take, if_pos hij]; simp
    rw [h1, ht]
    exact flat_get henc l i j x hx hj

/-! An argument that is a slice of structs of one-cell fields (after the page extra-structs, section 1). -/
section
open Go.ChangeShapes Go.WideShapes Go.Deep
variable {H : Type} {enc : TypeId × Value → H} {P : Program} {w : World} {base : Nat} {spare : Nat → Bool} {held : Bool}
theorem open_slice_fields {t e : TypeId} {fs : Array Field} {fuel : Nat} {cs : List Value} {x : DataW H × List MemPlace} (ht : P.underlying t = some (.slice e)) (he : P.underlying e = some (.struct fs))
    (hone : oneCellFields P fs = true) (hC : P.cellsOf e = fs.size) (h : DataW.trod enc P w base spare held fuel t cs = some x) :
    (cs = [.slice none 0 0] ∧ x = (.nil, [])) ∨
    ∃ (a : Addr) (len cap m : Nat) (D : Nat → DataW H) (Pl : Nat → List MemPlace), cs = [.slice (some a) len cap] ∧ base ≤ a.block ∧ len ≤ cap ∧ cap ≤ maxLen ∧ m = (if spare a.block then cap else len) ∧
      x = (.slice ((List.range len).map D) ((List.range (m - len)).map fun j => D (len + j)), MemPlace.row a (m * fs.size) ++ (List.range m).flatMap Pl) ∧
      ∀ i, i < m → ∃ (ys : List (DataW H × List MemPlace)) (n : Nat), D i = .agg (ys.map (·.1)) ∧ Pl i = ys.flatMap (·.2) ∧ ys.length = fs.size ∧
        ∀ (j : Nat) (f : Field), fs[j]? = some f → ∃ (v : Value) (y : DataW H × List MemPlace), w.cell? (a.add (i * fs.size + j)) = some v ∧ ys[j]? = some y ∧ DataW.trod enc P w base spare held n f.type [v] = some y := by
  rcases open_slice ht h with h0 | ⟨a, len, cap, m, n, D, Pl, hcs, hb, hl, hm, hmm, hx, hi⟩
  · exact .inl h0
  · refine .inr ⟨a, len, cap, m, D, Pl, hcs, hb, hl, hm, hmm, by rw [hC] at hx; exact hx, fun i him => ?_⟩
    obtain ⟨cs', hc, ht'⟩ := hi i him
    rw [hC] at hc
    obtain ⟨ys, n', hn', hy, hlen, hyl, hf⟩ := DataW.trod_struct he ht'
    obtain ⟨_, hcl, hat⟩ := World.cells?_some hc
    simp only [Prod.mk.injEq] at hy
    refine ⟨ys, n', hy.1, hy.2, hyl, fun j f hj => ?_⟩
    obtain ⟨ho, hk⟩ := hone_of hone j f hj
    have hjl : j < fs.size := (Array.getElem?_eq_some_iff.1 hj).1
    have hcell := hat j hjl
    have hv : cs'[j]? = some (cs'[j]'(by omega)) := List.getElem?_eq_getElem (by omega)
    have h1 := hf j f hj
    rw [ho, hk] at h1
    have hone' : (cs'.drop j).take 1 = [cs'[j]'(by omega)] := by
      rw [List.drop_eq_getElem_cons (by omega)]
      rfl
    rw [hone'] at h1
    have hys : ys[j]? = some (ys[j]'(by omega)) := List.getElem?_eq_getElem (by omega)
    refine ⟨_, _, ?_, hys, h1.trans hys⟩
    rw [← Go.Deep.add_add, hcell, hv]
end
theorem list_of_each {α : Type} {Q : Nat → α → Prop} : ∀ n : Nat, (∀ i, i < n → ∃ x, Q i x) → ∃ l : List α, l.length = n ∧ ∀ i x, l[i]? = some x → Q i x
  | 0, _ => ⟨[], rfl, fun i x h => by simp at h⟩
  | n + 1, h => by
    obtain ⟨l, hl, hq⟩ := list_of_each n (fun i hi => h i (by omega))
    obtain ⟨x, hx⟩ := h n (by omega)
    refine ⟨l ++ [x], by simp [hl], fun i y hy => ?_⟩
    by_cases hi : i < l.length
    · rw [List.getElem?_append_left hi] at hy; exact hq i y hy
    · rw [List.getElem?_append_right (by omega)] at hy
      have h0 : i - l.length = 0 := by
        rcases Nat.eq_zero_or_pos (i - l.length) with h0 | h0
        · exact h0
        · rw [List.getElem?_eq_none (by simp; omega)] at hy; cases hy
      rw [h0] at hy; simp at hy; subst hy
      obtain rfl : i = n := by omega
      exact hx
/-- an argument's slice, its cells known one by one -/
theorem Sl.of_cells {α : Type} {enc : α → List Value} {k n : Nat} {w : World} {a : Addr} {Good : α → Prop} (hk : 0 < k) (henc : ∀ x, (enc x).length = k)
    (h : ∀ i, i < n → ∃ x, Good x ∧ ∀ j, j < k → w.cell? (a.add (i * k + j)) = (enc x)[j]?) : ∃ l : List α, l.length = n ∧ (∀ x ∈ l, Good x) ∧ Sl enc k w (some a) l := by
  obtain ⟨l, hl, hq⟩ := list_of_each n h
  refine ⟨l, hl, fun x hx => ?_, fun hp => ?_⟩
  · obtain ⟨i, hi⟩ := List.getElem?_of_mem hx
    exact (hq i x hi).1
  · obtain ⟨b, o, spot⟩ := a
    have h0 := (hq 0 _ (List.getElem?_eq_getElem hp)).2 0 hk
    have hs : spot = none := by
      have e0 : (enc l[0])[0]? = some ((enc l[0])[0]'(by rw [henc]; exact hk)) := List.getElem?_eq_getElem _
      rw [e0] at h0
      simpa [Addr.add] using World.cell?_spot h0
    subst hs
    refine ⟨b, o, rfl, ?_, fun i j x hx hj => ?_⟩
    · have e0 : (enc l[0])[0]? = some ((enc l[0])[0]'(by rw [henc]; exact hk)) := List.getElem?_eq_getElem _
      rw [e0] at h0
      rcases Nat.lt_or_ge b w.heap.size with hlt | hge
      · exact hlt
      · simp [Addr.add, World.cell?, Array.getElem?_eq_none hge] at h0
    · have h1 := (hq i x hx).2 j hj
      rw [Go.WideShapes.add_plain] at h1
      rw [Nat.add_assoc]; exact h1
section
open Go.RowKit Go.WideShapes Go.ChangeShapes
variable {H : Type} {enc : TypeId × Value → H} {P : Program}
theorem post_of_below {f : Func} {s : ChangeSpec} {apart fresh handsOn again : Bool} {W W' : World} {args : Array Value} {v : Value} {ds gs : List (DataW H)} {before pa pv : List MemPlace}
    (hW : DataW.Whole enc P f.params.toList s.vars apart W args.toList ds gs before)
    (hres : ∀ (b : Nat) (sp : Nat → Bool) (hd : Bool), DataW.TrodAll enc P W' b sp hd f.resultTypes.toList (v.resultList f.resultTypes.size) (s.fn H (ds ++ gs)).results [])
    (hargs : ∀ sp : Nat → Bool, (∀ p ∈ before, sp p.block = true) → DataW.TrodAll enc P W' 0 sp true f.params.toList args.toList (s.fn H (ds ++ gs)).args pa)
    (hvars : ∀ sp : Nat → Bool, (∀ p ∈ before, sp p.block = true) → DataW.TrodVars enc P W' sp s.vars (s.fn H (ds ++ gs)).vars pv)
    (hps : before = pa ++ pv) (hb : Below W.heap.size W W')
    (hok : ∀ (j : Nat) (t : TypeId) (r : Value), f.resultTypes[j]? = some t → (v.resultList f.resultTypes.size)[j]? = some r → Value.okWide P W' .any 0 t r) :
    s.post enc P f apart fresh handsOn again W args v W' := by
  have hlt : ∀ p ∈ before, p.block < W.heap.size := fun p hp => hW.lt p hp
  have hold : ∀ p ∈ before, (fun b => decide (b < W.heap.size)) p.block = true := fun p hp => by simpa using hlt p hp
  refine ⟨ds, gs, before, [], pa, pv, hW, hres _ _ _, hargs _ hold, hvars _ hold, World.keptBut_mono (fun p hp => ⟨hp, ?_⟩) (hb.frame (· ∈ before)), fun _ => ?_⟩
  · rw [hps, List.mem_append] at hp
    exact Or.inr hp
  · obtain ⟨_, _, _, _, _, hz, hn⟩ := hW
    refine ⟨hok, _, _, ([] ++ pa) ++ pv, ⟨[] ++ pa, pv, trodAll_append (hargs _ (fun _ _ => rfl)) (hres _ _ _), hvars _ (fun _ _ => rfl), rfl, ?_, ?_⟩, ?_⟩
    · intro b off hp
      have hin : MemPlace.cell b off ∈ before := by rw [hps]; simpa using hp
      rw [hb.frozen (hlt _ hin)]
      exact hz b off hin
    · intro ha
      have := hn ha
      rw [hps] at this
      simpa using this
    · intro p hp _
      rw [hps]
      simpa using hp
end
end Go.Proofs.Ytpjkcmmmpgncmaa
