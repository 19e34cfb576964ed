import Derived.WalkKit
import Derived.WalkSpells
import Derived.WalkLawsBesides
import Derived.Lib.Hide
import Derived.Deep.QuietTactic
import Derived.BigQuiet
import Derived.Deep.Slices
import Derived.Deep.Fields
import Derived.Deep.LoopGhost
import Derived.ChangeSame
import Derived.ProofKit
import Derived.Maps.AppendAt
import Derived.Test.YtpjkcmmmpgncmaaRows
import Derived.BigGuardPart
/- Words for memory and small lemmas that every text of this seat uses: slices that read as lists, blocks known whole, drawn regions whose operations leave old memory alone. -/
namespace Go.Proofs.Ytpjkcmmmpgncmaa
open Go.RowKit

theorem ret_int {k : IntKind} {a b : Int} (h : a = b) : Ending.returned (.int k a) = .returned (.int k b) := by rw [h]
theorem ret_bool {a b : Bool} (h : a = b) : Ending.returned (.bool a) = .returned (.bool b) := by rw [h]
theorem ret_str {a b : ByteArray} (h : a = b) : Ending.returned (.string a) = .returned (.string b) := by rw [h]
theorem bytes_eq_iff (a b : ByteArray) : a.toList = b.toList ↔ a = b := by
  constructor
  · intro h
    have h' : a.data.toList = b.data.toList := by rw [← ByteArray.toList_eq, ← ByteArray.toList_eq]; exact h
    cases a; cases b; simp at h'; simp [h']
  · intro h; rw [h]
theorem bytes_beq (a b : ByteArray) : (a.toList == b.toList) = decide (a = b) := by
  rw [Bool.eq_iff_iff]; simp [bytes_eq_iff]

/-! a region that draws its order, whose operations leave alone what was there -/
theorem wp_region_below {P : Program} {id : Nat} {Q : Exit → Act → World → Prop} {a : Act} {w : World} {l : List Oper} (hm : P.follows .mixedOrders = true) (hB : Region.lexB .any l.toArray = true)
    (h : wpQuiet P l.toArray (fun w' => Below w.heap.size w w') (fun a' => ∀ w', Below w.heap.size w w' → Q .normal a' w') l a) : (Code.region id l.toArray true).wp P Q a w :=
  wp_region_quiet (C := fun w' => Below w.heap.size w w') hm hB (Below.refl w.heap.size w).drew (by simpa using h)
theorem quiet_call {P : Program} {f : FuncId} {args : Array Value} {w w' : World} {v : Value} {B : Nat} (hb : Below B w w') (hB : B ≤ w.heap.size)
    (h : Calls P f args w' fun e w'' => e = .returned v ∧ Below w'.heap.size w' w'') : Calls P f args w' fun e w'' => e = .returned v ∧ Below B w w'' :=
  h.mono fun _ _ ⟨he, hm⟩ => ⟨he, hb.trans (hm.mono (Nat.le_trans hB hb.size))⟩

theorem quiet_id {P : Program} {f : FuncId} {args : Array Value} {w w' : World} {v : Value} {B : Nat} (hb : Below B w w')
    (h : Calls P f args w' fun e w'' => e = .returned v ∧ w' = w'') : Calls P f args w' fun e w'' => e = .returned v ∧ Below B w w'' :=
  h.mono fun _ _ ⟨he, hm⟩ => ⟨he, hm ▸ hb⟩
theorem bthen {w w1 w2 : World} (h : Below w.heap.size w w1) (h2 : Below w1.heap.size w1 w2) : Below w.heap.size w w2 := h.trans (h2.mono h.size)

/-! a slice value '.slice A l.length c' reads as the rows enc x, x in l, of k cells each -/
def Sl {α : Type} (enc : α → List Value) (k : Nat) (w : World) (A : Option Addr) (l : List α) : Prop :=
  0 < l.length → ∃ b o, A = some ⟨b, o, none⟩ ∧ b < w.heap.size ∧ ∀ i j x, l[i]? = some x → j < k → w.cell? ⟨b, o + i * k + j, none⟩ = (enc x)[j]?
section
variable {α : Type} {enc : α → List Value} {k : Nat} {w w' : World} {A : Option Addr} {l : List α}
theorem Sl.mono (h : Sl enc k w A l) {B : Nat} (hB : w.heap.size ≤ B) (hb : Below B w w') : Sl enc k w' A l := by
  intro hl
  obtain ⟨b, o, rfl, hlt, hc⟩ := h hl
  exact ⟨b, o, rfl, Nat.lt_of_lt_of_le hlt hb.size, fun i j x hx hj => by rw [hb.cell (by simp; omega)]; exact hc i j x hx hj⟩
theorem Sl.below (h : Sl enc k w A l) (hb : Below w.heap.size w w') : Sl enc k w' A l := h.mono (Nat.le_refl _) hb
theorem Sl.nil (enc : α → List Value) (k : Nat) (w : World) (A : Option Addr) : Sl enc k w A [] := fun h => absurd h (by simp)
theorem Sl.at1 {f : α → Value} (h : Sl (fun x => [f x]) 1 w A l) {i : Nat} (hi : i < l.length) :
    ∃ b o, A = some ⟨b, o, none⟩ ∧ b < w.heap.size ∧ w.cell? ⟨b, o + i, none⟩ = some (f l[i]) := by
  obtain ⟨b, o, rfl, hB, hc⟩ := h (by omega)
  have h0 := hc i 0 _ (List.getElem?_eq_getElem hi) (by omega)
  simp only [Nat.mul_one, Nat.add_zero] at h0
  exact ⟨b, o, rfl, hB, h0⟩
theorem Sl.at2 {f g : α → Value} (h : Sl (fun x => [f x, g x]) 2 w A l) {i : Nat} (hi : i < l.length) :
    ∃ b o, A = some ⟨b, o, none⟩ ∧ b < w.heap.size ∧ w.cell? ⟨b, o + i * 2, none⟩ = some (f l[i]) ∧ w.cell? ⟨b, o + i * 2 + 1, none⟩ = some (g l[i]) := by
  obtain ⟨b, o, rfl, hB, hc⟩ := h (by omega)
  exact ⟨b, o, rfl, hB, hc i 0 _ (List.getElem?_eq_getElem hi) (by omega), hc i 1 _ (List.getElem?_eq_getElem hi) (by omega)⟩
theorem Sl.at3 {f g p : α → Value} (h : Sl (fun x => [f x, g x, p x]) 3 w A l) {i : Nat} (hi : i < l.length) :
    ∃ b o, A = some ⟨b, o, none⟩ ∧ b < w.heap.size ∧ w.cell? ⟨b, o + i * 3, none⟩ = some (f l[i]) ∧ w.cell? ⟨b, o + i * 3 + 1, none⟩ = some (g l[i]) ∧ w.cell? ⟨b, o + i * 3 + 2, none⟩ = some (p l[i]) := by
  obtain ⟨b, o, rfl, hB, hc⟩ := h (by omega)
  exact ⟨b, o, rfl, hB, hc i 0 _ (List.getElem?_eq_getElem hi) (by omega), hc i 1 _ (List.getElem?_eq_getElem hi) (by omega), hc i 2 _ (List.getElem?_eq_getElem hi) (by omega)⟩
theorem Sl.at4 {f g p q : α → Value} (h : Sl (fun x => [f x, g x, p x, q x]) 4 w A l) {i : Nat} (hi : i < l.length) :
    ∃ b o, A = some ⟨b, o, none⟩ ∧ b < w.heap.size ∧ w.cell? ⟨b, o + i * 4, none⟩ = some (f l[i]) ∧ w.cell? ⟨b, o + i * 4 + 1, none⟩ = some (g l[i]) ∧ w.cell? ⟨b, o + i * 4 + 2, none⟩ = some (p l[i]) ∧
      w.cell? ⟨b, o + i * 4 + 3, none⟩ = some (q l[i]) := by
  obtain ⟨b, o, rfl, hB, hc⟩ := h (by omega)
  exact ⟨b, o, rfl, hB, hc i 0 _ (List.getElem?_eq_getElem hi) (by omega), hc i 1 _ (List.getElem?_eq_getElem hi) (by omega), hc i 2 _ (List.getElem?_eq_getElem hi) (by omega), hc i 3 _ (List.getElem?_eq_getElem hi) (by omega)⟩
end

/-! a block that is known whole -/
def Blk (w : World) (g : Nat) (t : TypeId) (cs : Array Value) : Prop := w.heap[g]? = some (.cells cs t (0, 0))
section
variable {w w' : World} {g : Nat} {t : TypeId} {cs : Array Value}
theorem Blk.lt (h : Blk w g t cs) : g < w.heap.size := by
  rcases Nat.lt_or_ge g w.heap.size with hlt | hge
  · exact hlt
  · unfold Blk at h; rw [Array.getElem?_eq_none hge] at h; cases h
theorem Blk.cell (h : Blk w g t cs) (i : Nat) : w.cell? ⟨g, i, none⟩ = cs[i]? := cell_of_row w g i cs t (0, 0) h
theorem Blk.at_ (h : Blk w g t cs) {i : Nat} (hi : i < cs.size) : w.cell? ⟨g, i, none⟩ = some cs[i] := (h.cell i).trans (Array.getElem?_eq_getElem hi)
theorem Blk.frozen (h : Blk w g t cs) (i : Nat) : w.frozen? ⟨g, i, none⟩ = false := by
  unfold Blk at h
  simp [World.frozen?, h]
theorem Blk.new (w : World) (t : TypeId) (cs : Array Value) : Blk (w.alloc (.cells cs t)) w.heap.size t cs := heap_alloc_new w _
theorem Blk.drew (h : Blk w g t cs) : Blk w.drew g t cs := h
theorem Blk.alloc (h : Blk w g t cs) (o : Obj) : Blk (w.alloc o) g t cs := (Below.heap_alloc w o g h.lt).trans h
theorem Blk.set_ (h : Blk w g t cs) (i : Nat) (u : Value) : Blk (w.setCell ⟨g, i, none⟩ u) g t (cs.setIfInBounds i u) := by
  unfold Blk at h ⊢
  simp [World.setCell, Array.getElem?_modify, h]
theorem Blk.far (h : Blk w g t cs) {p : Addr} (hp : g ≠ p.block) (u : Value) : Blk (w.setCell p u) g t cs := (Below.heap_setCell w p u g hp).trans h
theorem Blk.below {B : Nat} (h : Blk w g t cs) (hb : Below B w w') (hg : g < B) : Blk w' g t cs := (hb.block g hg).trans h
theorem Blk.kept (h : Blk w g t cs) (hb : Below w.heap.size w w') : Blk w' g t cs := h.below hb h.lt
theorem Blk.grown {row : Option Nat} (h : Blk w g t cs) (hb : w.grownBy w' row) (hg : some g ≠ row) : Blk w' g t cs := (hb.block g h.lt hg).trans h
end
/-- both cells of a block of two are stored: what is read afterwards, as the walk spells it -/
theorem Blk.two {w : World} {g : Nat} {t : TypeId} {a b : Value} (h : Blk w g t #[a, b]) (u v : Value) :
    (w.setCell ⟨g, 0, none⟩ u).cell? ⟨g, 0, none⟩ = some u ∧ ((w.setCell ⟨g, 0, none⟩ u).setCell ⟨g, 1, none⟩ v).cell? ⟨g, 1, none⟩ = some v :=
  ⟨(h.set_ 0 u).cell 0, ((h.set_ 0 u).set_ 1 v).cell 1⟩
/-- a block with n rows of k cells of which the first are written is an owned row -/
theorem own_of_blk {w : World} {g : Nat} {t : TypeId} {cs : Array Value} {base n k : Nat} {xs : List Value} (h : Blk w g t cs) (hb : base ≤ g) (hn : n ≤ maxLen) (hs : cs.size = n * k) (hx : cs.toList = xs) :
    w.ownsRow base t k (.slice (some ⟨g, 0, none⟩) n n) n xs :=
  ⟨by rw [← hx, ← hs]; simp, .inr ⟨g, n, cs, rfl, hb, h, Nat.le_refl _, hn, hs, by rw [← hs, ← hx, List.take_of_length_le (by simp)]⟩⟩
theorem flat_get {α : Type} {enc : α → List Value} {k : Nat} (henc : ∀ x, (enc x).length = k) : ∀ (l : List α) (i j : Nat) (x : α), l[i]? = some x → j < k → (l.flatMap enc)[i * k + j]? = (enc x)[j]?
  | [], i, j, x, hx, _ => by simp at hx
  | y :: ys, 0, j, x, hx, hj => by
    simp at hx; subst hx
    rw [List.flatMap_cons, List.getElem?_append_left (by rw [henc]; omega)]; simp
  | y :: ys, i + 1, j, x, hx, hj => by
    simp at hx
    rw [List.flatMap_cons, List.getElem?_append_right (by rw [henc, Nat.add_mul]; omega), henc, ← flat_get henc ys i j x hx hj]
    congr 1
    rw [Nat.add_mul]; omega
theorem flat_len {α : Type} {enc : α → List Value} {k : Nat} (henc : ∀ x, (enc x).length = k) (l : List α) : (l.flatMap enc).length = l.length * k := by
  induction l with
  | nil => simp
  | cons x l ih => rw [List.flatMap_cons, List.length_append, ih, henc, List.length_cons, Nat.add_mul]; omega
/-- the first m rows of l lie in cs -/
def Rws {α : Type} (enc : α → List Value) (k : Nat) (cs : Array Value) (l : List α) (m : Nat) : Prop :=
  ∀ i j x, l[i]? = some x → i < m → j < k → cs[i * k + j]? = (enc x)[j]?
section
variable {α : Type} {enc : α → List Value} {k m : Nat} {cs : Array Value} {l : List α}
theorem Rws.zero : Rws enc k cs l 0 := fun _ _ _ _ h _ => absurd h (by omega)
theorem Rws.done (henc : ∀ x, (enc x).length = k) (hs : cs.size = l.length * k) (h : Rws enc k cs l l.length) : cs.toList = l.flatMap enc := by
  rcases Nat.eq_zero_or_pos k with hk | hk
  · subst hk
    have h1 : cs.toList = [] := List.eq_nil_of_length_eq_zero (by simpa using hs)
    have h2 : l.flatMap enc = [] := List.eq_nil_of_length_eq_zero (by rw [flat_len henc]; simp)
    rw [h1, h2]
  · apply List.ext_getElem?
    intro p
    by_cases hp : p < l.length * k
    · have hi : p / k < l.length := Nat.div_lt_of_lt_mul (by rw [Nat.mul_comm]; exact hp)
      have hj : p % k < k := Nat.mod_lt _ hk
      have e : p / k * k + p % k = p := by rw [Nat.mul_comm]; exact Nat.div_add_mod p k
      have h1 := h (p / k) (p % k) _ (List.getElem?_eq_getElem hi) hi hj
      have h2 := flat_get henc l (p / k) (p % k) _ (List.getElem?_eq_getElem hi) hj
      rw [e] at h1 h2
      rw [h2, ← h1]; simp
    · rw [List.getElem?_eq_none (by simp; omega), List.getElem?_eq_none (by rw [flat_len henc]; omega)]
end
/-- a row that the call owns reads as a list -/
theorem Sl.of_own {α : Type} {enc : α → List Value} {k : Nat} {w : World} {base : Nat} {e : TypeId} {v : Value} {l : List α} (henc : ∀ x, (enc x).length = k) (h : w.ownsRow base e k v l.length (l.flatMap enc)) :
    ∃ A c, v = .slice A l.length c ∧ l.length ≤ c ∧ c ≤ maxLen ∧ Sl enc k w A l := by
  rcases h.2 with ⟨rfl, h0⟩ | ⟨g, cap, cur, rfl, hb, hh, hn, hm, hs, ht⟩
  · have hl := List.eq_nil_of_length_eq_zero h0
    subst hl
    exact ⟨none, 0, rfl, by simp, by simp [maxLen], Sl.nil _ _ _ _⟩
  · refine ⟨_, cap, rfl, hn, hm, fun hl => ⟨g, 0, rfl, Blk.lt (t := e) hh, fun i j x hx hj => ?_⟩⟩
    have hi : i < l.length := (List.getElem?_eq_some_iff.1 hx).1
    have hij : i * k + j < l.length * k := by
      have : (i + 1) * k ≤ l.length * k := Nat.mul_le_mul_right _ hi
      rw [Nat.add_mul] at this; omega
    rw [Nat.zero_add, Blk.cell (t := e) hh]
    have h1 : cur[i * k + j]? = (cur.toList.take (l.length * k))[i * k + j]? := by rw [List.getElem?_take, if_pos hij]; simp
    rw [h1, ht]
    exact flat_get henc l i j x hx hj

/-! An argument that is a slice of structs of one-cell fields (after the page extra-structs, section 1). -/
section
open Go.ChangeShapes Go.WideShapes Go.Deep
variable {H : Type} {enc : TypeId × Value → H} {P : Program} {w : World} {base : Nat} {spare : Nat → Bool} {held : Bool}
end
theorem list_of_each {α : Type} {Q : Nat → α → Prop} : ∀ n : Nat, (∀ i, i < n → ∃ x, Q i x) → ∃ l : List α, l.length = n ∧ ∀ i x, l[i]? = some x → Q i x
  | 0, _ => ⟨[], rfl, fun i x h => by simp at h⟩
  | n + 1, h => by
    obtain ⟨l, hl, hq⟩ := list_of_each n (fun i hi => h i (by omega))
    obtain ⟨x, hx⟩ := h n (by omega)
    refine ⟨l ++ [x], by simp [hl], fun i y hy => ?_⟩
    by_cases hi : i < l.length
    · rw [List.getElem?_append_left hi] at hy; exact hq i y hy
    · rw [List.getElem?_append_right (by omega)] at hy
      have h0 : i - l.length = 0 := by
        rcases Nat.eq_zero_or_pos (i - l.length) with h0 | h0
        · exact h0
        · rw [List.getElem?_eq_none (by simp; omega)] at hy; cases hy
      rw [h0] at hy; simp at hy; subst hy
      obtain rfl : i = n := by omega
      exact hx
/-- an argument's slice, its cells known one by one -/
theorem Sl.of_cells {α : Type} {enc : α → List Value} {k n : Nat} {w : World} {a : Addr} {Good : α → Prop} (hk : 0 < k) (henc : ∀ x, (enc x).length = k)
    (h : ∀ i, i < n → ∃ x, Good x ∧ ∀ j, j < k → w.cell? (a.add (i * k + j)) = (enc x)[j]?) : ∃ l : List α, l.length = n ∧ (∀ x ∈ l, Good x) ∧ Sl enc k w (some a) l := by
  obtain ⟨l, hl, hq⟩ := list_of_each n h
  refine ⟨l, hl, fun x hx => ?_, fun hp => ?_⟩
  · obtain ⟨i, hi⟩ := List.getElem?_of_mem hx
    exact (hq i x hi).1
  · obtain ⟨b, o, spot⟩ := a
    have h0 := (hq 0 _ (List.getElem?_eq_getElem hp)).2 0 hk
    have hs : spot = none := by
      have e0 : (enc l[0])[0]? = some ((enc l[0])[0]'(by rw [henc]; exact hk)) := List.getElem?_eq_getElem _
      rw [e0] at h0
      simpa [Addr.add] using World.cell?_spot h0
    subst hs
    refine ⟨b, o, rfl, ?_, fun i j x hx hj => ?_⟩
    · have e0 : (enc l[0])[0]? = some ((enc l[0])[0]'(by rw [henc]; exact hk)) := List.getElem?_eq_getElem _
      rw [e0] at h0
      rcases Nat.lt_or_ge b w.heap.size with hlt | hge
      · exact hlt
      · simp [Addr.add, World.cell?, Array.getElem?_eq_none hge] at h0
    · have h1 := (hq i x hx).2 j hj
      rw [Go.WideShapes.add_plain] at h1
      rw [Nat.add_assoc]; exact h1
section
open Go.RowKit Go.WideShapes Go.ChangeShapes
variable {H : Type} {enc : TypeId × Value → H} {P : Program}
end
end Go.Proofs.Ytpjkcmmmpgncmaa
/- More words for memory: owned rows over a callee that leaves old memory alone, new blocks as sources of append. -/
namespace Go.Proofs.Ytpjkcmmmpgncmaa
open Go.RowKit
theorem own_kept {w w' : World} {base : Nat} {e : TypeId} {k n : Nat} {v : Value} {xs : List Value} (h : w.ownsRow base e k v n xs) (hb : Below w.heap.size w w') : w'.ownsRow base e k v n xs := by
  refine ⟨h.1, ?_⟩
  rcases h.2 with h2 | ⟨g, cap, cur, hv, hg, hh, r⟩
  · exact .inl h2
  · exact .inr ⟨g, cap, cur, hv, hg, (hb.block g (Blk.lt (t := e) hh)).trans hh, r⟩
theorem new_cells (w : World) (xs : List Value) (t : TypeId) : ∀ j u, xs[j]? = some u → (w.alloc (.cells xs.toArray t)).cell? ((⟨w.heap.size, 0, none⟩ : Addr).add j) = some u := by
  intro j u hj
  rw [Go.WideShapes.add_plain, Nat.zero_add, (Blk.new w t xs.toArray).cell j]
  simpa using hj
theorem below_own {w w' : World} {B : Nat} {row : Option Nat} (hb : Below B w w') {w2 : World} (hg : w'.grownBy w2 row) (hB : B ≤ w'.heap.size) (hr : ∀ k, row = some k → B ≤ k) : Below B w w2 := hb.grown hg hB hr
theorem ownB {w : World} {base : Nat} {e : TypeId} {k n : Nat} {v : Value} {xs : List Value} (h : w.ownsRow base e k v n xs) : ∀ b, v.ownBlock = some b → base ≤ b := fun b hb => (h.lt b hb).1
end Go.Proofs.Ytpjkcmmmpgncmaa
/- What is a key, what is a number that may be stored: the program's and the reference's tests. -/
namespace Go.Proofs.Ytpjkcmmmpgncmaa
open Go.RowKit
/-- byte i of s, 0 behind its end -/
def kbyt (s : ByteArray) (i : Nat) : Int := ((s.data.getD i 0).toNat : Int)
theorem kbyt_eq (s : ByteArray) (i : Nat) (h : i < s.size) : ((s[i].toNat : Nat) : Int) = kbyt s i := by
  unfold kbyt; rw [Array.getD_eq_getD_getElem?, Array.getElem?_eq_getElem (by simpa using h)]; rfl
def keyB (k : ByteArray) : Bool := decide ((k.size = 1 ∨ k.size = 2) ∧ ∀ i, i < k.size → 97 ≤ kbyt k i ∧ kbyt k i ≤ 122)
def numB (n : Int) : Bool := decide (-999 ≤ n ∧ n ≤ 999)
theorem keyB_bad {k : ByteArray} {j : Nat} (hj : j < k.size) (h : kbyt k j < 97 ∨ 122 < kbyt k j) : keyB k = false := by
  unfold keyB; simp only [decide_eq_false_iff_not]
  intro ⟨_, h2⟩
  have := h2 j hj
  omega
theorem keyB_size {k : ByteArray} (h : keyB k = true) : k.size ≤ 2 := by unfold keyB at h; simp at h; omega
set_option maxHeartbeats 400000 in
theorem specKeyOk_any (k : ByteArray) (w : World) (hs : k.size ≤ maxLen) :
    Calls Try.prog 104 #[.string k] w fun e w' => e = .returned (.bool (keyB k)) ∧ w = w' := by
  unfold maxLen at hs
  go_enter Try.func104, Try.ntmps104
  go_wp2
  go_loop [3] (fun i => ∃ j : Nat, j ≤ k.size ∧ i = .int .i64 j ∧ ∀ m, m < j → 97 ≤ kbyt k m ∧ kbyt k m ≤ 122) (fun i => k.size - (intOf i).toNat)
  case atStart => exact ⟨0, by omega, rfl, fun m h => by omega⟩
  case round =>
    obtain ⟨j, hj, rfl, hall⟩ := hrel
    have HA := Lib.hid hall
    clear hall
    by_cases hlt : j < k.size
    · have hby := kbyt_eq k j hlt
      have HB := Lib.hid hby
      clear hby
      go_wp2
      · have h : ((k[j].toNat : Nat) : Int) < 97 := by assumption
        have hB := HB.out
        go_ret
        exact ⟨ret_bool (keyB_bad hlt (.inl (by omega))).symm, rfl⟩
      · have h : 122 < ((k[j].toNat : Nat) : Int) := by assumption
        have hB := HB.out
        go_ret
        exact ⟨ret_bool (keyB_bad hlt (.inr (by omega))).symm, rfl⟩
      · have h : ¬ ((k[j].toNat : Nat) : Int) < 97 := by assumption
        have h' : ((k[j].toNat : Nat) : Int) ≤ 122 := by assumption
        have hB := HB.out
        go_round
        case rel => exact ⟨j + 1, by omega, by go_num, fun m hm => by
          by_cases hmj : m < j
          · exact HA.out m hmj
          · obtain rfl : m = j := by omega
            omega⟩
        case measure => simp [intOf]; omega
    · obtain rfl : j = k.size := by omega
      by_cases h1 : 1 ≤ k.size <;> by_cases h2 : k.size ≤ 2
      · have d1 : decide (1 ≤ (k.size : Int)) = true := by simp; omega
        have d2 : decide ((k.size : Int) ≤ 2) = true := by simp; omega
        go_wp2
        go_ret
        exact ⟨ret_bool (by unfold keyB; simp only [Bool.true_eq, decide_eq_true_eq]; exact ⟨by omega, HA.out⟩), rfl⟩
      all_goals
        have hk : keyB k = false := by unfold keyB; simp only [decide_eq_false_iff_not]; intro h; omega
        have HK := Lib.hid hk
        clear hk
      · have d1 : decide (1 ≤ (k.size : Int)) = true := by simp; omega
        have d2 : decide ((k.size : Int) ≤ 2) = false := by simp; omega
        go_wp2
        go_ret
        exact ⟨ret_bool HK.out.symm, rfl⟩
      · have d1 : decide (1 ≤ (k.size : Int)) = false := by simp; omega
        go_wp2
        go_ret
        exact ⟨ret_bool HK.out.symm, rfl⟩
      · omega
set_option maxHeartbeats 400000 in
theorem specNumOk_any (n : Int) (w : World) :
    Calls Try.prog 105 #[.int .i64 n] w fun e w' => e = .returned (.bool (numB n)) ∧ w = w' := by
  by_cases a : -999 ≤ n <;> by_cases b : n ≤ 999
  all_goals
    go_enter Try.func105, Try.ntmps105
    go_wp2
    go_ret
    exact ⟨ret_bool (by unfold numB; simp <;> omega), rfl⟩
end Go.Proofs.Ytpjkcmmmpgncmaa
/- A version alone: whether it is right, whether it is visible at a time, whether it may stand ahead of another. -/
namespace Go.Proofs.Ytpjkcmmmpgncmaa
open Go.RowKit
/-- a version: key, number, from, to -/
abbrev Ver : Type := ByteArray × Int × Int × Int
def encVer (x : Ver) : List Value := [.string x.1, .int .i64 x.2.1, .int .i64 x.2.2.1, .int .i64 x.2.2.2]
theorem encVer_len (x : Ver) : (encVer x).length = 4 := rfl
def verB (x : Ver) (now : Int) : Bool := keyB x.1 && numB x.2.1 && decide (1 ≤ x.2.2.1) && decide (x.2.2.1 ≤ now) && (decide (x.2.2.2 = 0) || (decide (x.2.2.1 < x.2.2.2) && decide (x.2.2.2 ≤ now)))
def visB (x : Ver) (t : Int) : Bool := decide (x.2.2.1 ≤ t) && (decide (x.2.2.2 = 0) || decide (t < x.2.2.2))
def ltB (a b : ByteArray) : Bool := Op.bytesLess a.toList b.toList
def aheadB (a b : Ver) : Bool := if a.1 ≠ b.1 then ltB a.1 b.1 else decide (0 < a.2.2.2) && decide (a.2.2.2 ≤ b.2.2.1)
set_option maxHeartbeats 1000000 in
theorem specVerOk_any (x : Ver) (now : Int) (w : World) (hs : x.1.size ≤ maxLen) :
    Calls Try.prog 58 #[.agg #[.string x.1, .int .i64 x.2.1, .int .i64 x.2.2.1, .int .i64 x.2.2.2], .int .i64 now] w fun e w' => e = .returned (.bool (verB x now)) ∧ Below w.heap.size w w' := by
  obtain ⟨k, n, fr, to⟩ := x
  simp only at hs ⊢
  have hbw : ∀ o, Below w.heap.size w (w.alloc o) := fun o => (Below.refl _ _).alloc (Nat.le_refl _) _
  go_enter Try.func58, Try.ntmps58
  go_wp2_with (first
    | (go_at_call 104; refine (specKeyOk_any _ _ hs).mono ?_; rintro e w' ⟨rfl, rfl⟩)
    | (go_at_call 105; refine (specNumOk_any _ _).mono ?_; rintro e w' ⟨rfl, rfl⟩))
  all_goals
    go_ret
    exact ⟨ret_bool (by unfold verB; simp_all <;> omega), hbw _⟩
set_option maxHeartbeats 1000000 in
theorem ahead_any (x y : Ver) (w : World) :
    Calls Try.prog 59 #[.agg #[.string x.1, .int .i64 x.2.1, .int .i64 x.2.2.1, .int .i64 x.2.2.2], .agg #[.string y.1, .int .i64 y.2.1, .int .i64 y.2.2.1, .int .i64 y.2.2.2]] w fun e w' => e = .returned (.bool (aheadB x y)) ∧ Below w.heap.size w w' := by
  obtain ⟨k, n, fr, to⟩ := x
  obtain ⟨k2, n2, fr2, to2⟩ := y
  simp only
  have hbw : ∀ o p, Below w.heap.size w ((w.alloc o).alloc p) := fun o p => ((Below.refl _ _).alloc (Nat.le_refl _) _).alloc (by simp) _
  go_enter Try.func59, Try.ntmps59
  go_wp2
  all_goals
    go_ret
    exact ⟨ret_bool (by unfold aheadB ltB; simp_all [bytes_beq] <;> omega), hbw _ _⟩
end Go.Proofs.Ytpjkcmmmpgncmaa
