import Derived.Test.YtpjkcmmmpgncmaaM16
import Derived.Test.YtpjkcmmmpgncmaaM06
import Derived.Test.YtpjkcmmmpgncmaaM11
import Derived.Test.YtpjkcmmmpgncmaaM03
/- Slices whose elements' type is known, and boxes: a store to a box leaves such slices alone. -/
namespace Go.Proofs.Ytpjkcmmmpgncmaa
open Go.RowKit
/-- no slice's elements are of these types: they are boxes -/
def boxT : List TypeId := [32, 76, 78, 81, 128, 155]
def Kp (W W' : World) : Prop := W.heap.size ≤ W'.heap.size ∧ ∀ b cs t, Blk W b t cs → t ∉ boxT → Blk W' b t cs
theorem Kp.refl (W : World) : Kp W W := ⟨Nat.le_refl _, fun _ _ _ h _ => h⟩
theorem Kp.trans {W W1 W2 : World} (h : Kp W W1) (h2 : Kp W1 W2) : Kp W W2 := ⟨Nat.le_trans h.1 h2.1, fun b cs t hb ht => h2.2 b cs t (h.2 b cs t hb ht) ht⟩
theorem Kp.below {W W1 : World} (h : Below W.heap.size W W1) : Kp W W1 := ⟨h.size, fun _ _ _ hb _ => hb.kept h⟩
theorem Kp.then {W W1 W2 : World} (h : Kp W W1) (h2 : Below W1.heap.size W1 W2) : Kp W W2 := h.trans (Kp.below h2)
theorem Kp.set {W W' : World} {g i : Nat} {t : TypeId} {cs : Array Value} (h : Kp W W') (hB : Blk W' g t cs) (ht : t ∈ boxT) (u : Value) : Kp W (W'.setCell ⟨g, i, none⟩ u) := by
  refine ⟨by rw [World.size_setCell]; exact h.1, fun b cs2 t2 hb ht2 => (h.2 b cs2 t2 hb ht2).far (p := ⟨g, i, none⟩) ?_ u⟩
  intro e
  have h1 := h.2 b cs2 t2 hb ht2
  simp only at e
  subst e
  unfold Blk at h1 hB
  rw [h1] at hB
  injection hB with hB
  injection hB with e1 e2
  exact ht2 (e2 ▸ ht)
theorem Kp.gr {W W' : World} {g : Nat} {t : TypeId} {cs : Array Value} (hB : Blk W g t cs) (ht : t ∈ boxT) (hg : W.grownBy W' (some g)) : Kp W W' := by
  refine ⟨hg.size, fun b cs2 t2 hb ht2 => hb.grown hg ?_⟩
  intro e
  injection e with e
  subst e
  unfold Blk at hb hB
  rw [hb] at hB
  injection hB with hB
  injection hB with e1 e2
  exact ht2 (e2 ▸ ht)
theorem blk_ne {W : World} {g b : Nat} {t t2 : TypeId} {cs cs2 : Array Value} (h : Blk W g t cs) (h2 : Blk W b t2 cs2) (ht : t ≠ t2) : g ≠ b := by
  intro e; subst e
  unfold Blk at h h2
  rw [h] at h2
  injection h2 with h2
  injection h2 with e1 e2
  exact ht e2
/-- a slice that reads as a list, its elements' type known -/
def SlK {α : Type} (enc : α → List Value) (k : Nat) (t : TypeId) (w : World) (A : Option Addr) (l : List α) : Prop :=
  0 < l.length → ∃ b o cs, A = some ⟨b, o, none⟩ ∧ Blk w b t cs ∧ ∀ i j x, l[i]? = some x → j < k → cs[o + i * k + j]? = (enc x)[j]?
section
variable {α : Type} {enc : α → List Value} {k : Nat} {t : TypeId} {w w' : World} {A : Option Addr} {l : List α}
theorem SlK.sl (h : SlK enc k t w A l) : Sl enc k w A l := fun hl => by
  obtain ⟨b, o, cs, e, hb, hc⟩ := h hl
  exact ⟨b, o, e, hb.lt, fun i j x hx hj => (hb.cell _).trans (hc i j x hx hj)⟩
theorem SlK.kp (h : SlK enc k t w A l) (hk : Kp w w') (ht : t ∉ boxT) : SlK enc k t w' A l := fun hl => by
  obtain ⟨b, o, cs, e, hb, hc⟩ := h hl
  exact ⟨b, o, cs, e, hk.2 _ _ _ hb ht, hc⟩
theorem SlK.nil (w : World) (A : Option Addr) : SlK enc k t w A [] := fun h => absurd h (by simp)
theorem SlK.of_own {B n c : Nat} (henc : ∀ x, (enc x).length = k) (h : w.ownsRow B t k (.slice A n c) l.length (l.flatMap enc)) : SlK enc k t w A l := fun hl => by
  rcases h.2 with ⟨e, h0⟩ | ⟨g, cap, cur, e, hb, hh, hn, hm, hs, ht⟩
  · omega
  · injection e with e1 e2 e3
    refine ⟨g, 0, cur, e1, hh, fun i j x hx hj => ?_⟩
    have hi : i < l.length := (List.getElem?_eq_some_iff.1 hx).1
    have hij : i * k + j < l.length * k := by
      have : (i + 1) * k ≤ l.length * k := Nat.mul_le_mul_right _ hi
      rw [Nat.add_mul] at this; omega
    rw [Nat.zero_add]
    have h1 : cur[i * k + j]? = (cur.toList.take (l.length * k))[i * k + j]? := by rw [List.getElem?_take, if_pos hij]; simp
    rw [h1, ht]
    exact flat_get henc l i j x hx hj
end
/-- the versions of a store -/
def VK (W : World) (now : Int) (A : Option Addr) (l : List Ver) : Prop := SlK encVer 4 88 W A l ∧ FitsV l ∧ l.length ≤ 60 ∧ 0 ≤ now ∧ now ≤ 40
/-- what one did -/
def WK (W : World) (A : Option Addr) (ws : List Wri) : Prop := SlK encWri 3 46 W A ws ∧ FitsW ws ∧ ws.length ≤ 8
/-- rows -/
def RK (W : World) (A : Option Addr) (rs : List Row) (c : Nat) : Prop := SlK encRow 2 111 W A rs ∧ (∀ x ∈ rs, x.1.size ≤ maxLen) ∧ rs.length ≤ c ∧ c ≤ maxLen
/-- what one may ask by names -/
def NK (W : World) (A : Option Addr) (ns : List Nm) : Prop := SlK encNm 5 130 W A ns ∧ (∀ x ∈ ns, x.1.size ≤ 10 ∧ x.2.2.1.size ≤ maxLen ∧ x.2.2.2.1.size ≤ maxLen) ∧ ns.length ≤ 4
theorem VK.kp {W W' : World} {now : Int} {A : Option Addr} {l : List Ver} (h : VK W now A l) (hk : Kp W W') : VK W' now A l := ⟨h.1.kp hk (by decide), h.2⟩
theorem WK.kp {W W' : World} {A : Option Addr} {l : List Wri} (h : WK W A l) (hk : Kp W W') : WK W' A l := ⟨h.1.kp hk (by decide), h.2⟩
theorem RK.kp {W W' : World} {A : Option Addr} {l : List Row} {c : Nat} (h : RK W A l c) (hk : Kp W W') : RK W' A l c := ⟨h.1.kp hk (by decide), h.2⟩
theorem NK.kp {W W' : World} {A : Option Addr} {l : List Nm} (h : NK W A l) (hk : Kp W W') : NK W' A l := ⟨h.1.kp hk (by decide), h.2⟩
theorem VK.sl {W : World} {now : Int} {A : Option Addr} {l : List Ver} (h : VK W now A l) : Sl encVer 4 W A l := h.1.sl
theorem WK.sl {W : World} {A : Option Addr} {l : List Wri} (h : WK W A l) : Sl encWri 3 W A l := h.1.sl
theorem RK.sl {W : World} {A : Option Addr} {l : List Row} {c : Nat} (h : RK W A l c) : Sl encRow 2 W A l := h.1.sl
theorem NK.sl {W : World} {A : Option Addr} {l : List Nm} (h : NK W A l) : Sl encNm 5 W A l := h.1.sl
theorem VK.of {W : World} {B c : Nat} {now : Int} {A : Option Addr} {l : List Ver} (h : OwnV W B (.slice A l.length c) l) (hf : FitsV l) (hl : l.length ≤ 60) (h0 : 0 ≤ now) (h1 : now ≤ 40) : VK W now A l := ⟨SlK.of_own encVer_len h, hf, hl, h0, h1⟩
theorem WK.of {W : World} {B c : Nat} {A : Option Addr} {l : List Wri} (h : OwnW W B (.slice A l.length c) l) (hf : FitsW l) (hl : l.length ≤ 8) : WK W A l := ⟨SlK.of_own encWri_len h, hf, hl⟩
theorem RK.of {W : World} {B c : Nat} {A : Option Addr} {l : List Row} (h : OwnR W B (.slice A l.length c) l) (hf : ∀ x ∈ l, x.1.size ≤ maxLen) : RK W A l c := by
  obtain ⟨A', c', e, h1, h2, _⟩ := h.sl
  injection e with e1 e2 e3
  subst e3
  exact ⟨SlK.of_own encRow_len h, hf, h1, h2⟩
/-- boxes that stand, apart from one another, in new memory -/
def Sts (w : World) (L : List (Nat × TypeId × Array Value)) (W : World) : Prop :=
  (∀ b ∈ L, w.heap.size ≤ b.1 ∧ Blk W b.1 b.2.1 b.2.2) ∧ (L.map (·.1)).Nodup ∧ Below w.heap.size w W
section
variable {w W W' : World} {L L' : List (Nat × TypeId × Array Value)}
theorem Sts.start (w : World) : Sts w [] w := ⟨fun b h => absurd h (by simp), by simp, Below.refl _ _⟩
theorem Sts.kept (h : Sts w L W) (hb : Below W.heap.size W W') : Sts w L W' := ⟨fun b hm => ⟨(h.1 b hm).1, (h.1 b hm).2.kept hb⟩, h.2.1, bthen h.2.2 hb⟩
theorem Sts.blk (h : Sts w L W) (i : Nat) {a : Nat} {t : TypeId} {cs : Array Value} (hi : L[i]? = some (a, t, cs)) : Blk W a t cs := (h.1 _ (List.mem_of_getElem? hi)).2
theorem Sts.alloc (h : Sts w L W) (t : TypeId) (cs : Array Value) : Sts w (L ++ [(W.heap.size, t, cs)]) (W.alloc (.cells cs t)) := by
  have hb := (Below.refl W.heap.size W).alloc (Nat.le_refl _) (.cells cs t)
  refine ⟨fun b hm => ?_, ?_, bthen h.2.2 hb⟩
  · rcases List.mem_append.1 hm with hm | hm
    · exact ⟨(h.1 b hm).1, (h.1 b hm).2.kept hb⟩
    · simp at hm; subst hm; exact ⟨h.2.2.size, Blk.new W t cs⟩
  · rw [List.map_append, List.nodup_append]
    refine ⟨h.2.1, by simp, fun x hx y hy => ?_⟩
    simp at hy; subst hy
    obtain ⟨b, hm, rfl⟩ := List.mem_map.1 hx
    have := (h.1 b hm).2.lt
    omega
theorem Sts.setAux {w W : World} {a i : Nat} {t : TypeId} {cs : Array Value} {L1 L2 : List (Nat × TypeId × Array Value)} (h : Sts w (L1 ++ (a, t, cs) :: L2) W) (u : Value) : Sts w (L1 ++ (a, t, cs.setIfInBounds i u) :: L2) (W.setCell ⟨a, i, none⟩ u) := by
  obtain ⟨h1, h2, h3⟩ := h
  have hm0 : (a, t, cs) ∈ L1 ++ (a, t, cs) :: L2 := by simp
  have hn := h2
  simp only [List.map_append, List.map_cons] at hn
  rw [List.nodup_append, List.nodup_cons] at hn
  obtain ⟨_, ⟨hn1, _⟩, hn2⟩ := hn
  refine ⟨fun b hm => ?_, by simpa using h2, h3.setCell (h1 _ hm0).1 _⟩
  rcases List.mem_append.1 hm with hm | hm
  · have := h1 b (List.mem_append.2 (.inl hm))
    exact ⟨this.1, this.2.far (p := ⟨a, i, none⟩) (fun e => hn2 b.1 (List.mem_map.2 ⟨b, hm, rfl⟩) a (by simp) e) u⟩
  · rcases List.mem_cons.1 hm with rfl | hm
    · exact ⟨(h1 _ hm0).1, (h1 _ hm0).2.set_ i u⟩
    · have := h1 b (List.mem_append.2 (.inr (List.mem_cons_of_mem _ hm)))
      exact ⟨this.1, this.2.far (p := ⟨a, i, none⟩) (fun e => hn1 (List.mem_map.2 ⟨b, hm, e⟩)) u⟩
/-- the j-th box: its i-th cell is stored -/
theorem Sts.set (h : Sts w L W) (j i : Nat) (u : Value) {a : Nat} {t : TypeId} {cs : Array Value} (hj : L[j]? = some (a, t, cs)) : Sts w (L.set j (a, t, cs.setIfInBounds i u)) (W.setCell ⟨a, i, none⟩ u) := by
  obtain ⟨hlt, he⟩ := List.getElem?_eq_some_iff.1 hj
  have e1 : L = L.take j ++ (a, t, cs) :: L.drop (j + 1) := by
    rw [← he, ← List.drop_eq_getElem_cons hlt, List.take_append_drop]
  have e2 : L.set j (a, t, cs.setIfInBounds i u) = L.take j ++ (a, t, cs.setIfInBounds i u) :: L.drop (j + 1) := List.set_eq_take_append_cons_drop.trans (if_pos hlt)
  rw [e2]
  rw [e1] at h
  exact h.setAux u
end
end Go.Proofs.Ytpjkcmmmpgncmaa
/- A bundle of what stands in a call: boxes, and facts that a store to a box leaves alone. -/
namespace Go.Proofs.Ytpjkcmmmpgncmaa
open Go.RowKit
theorem Blk.q1 {W : World} {a : Nat} {t : TypeId} {v0 : Value} (h : Blk W a t #[v0]) : W.cell? ⟨a, 0, none⟩ = some v0 := h.cell 0
theorem Blk.z1 {W : World} {a : Nat} {t : TypeId} {cs : Array Value} (h : Blk W a t cs) : W.frozen? ⟨a, 0, none⟩ = false := h.frozen 0
theorem Blk.q2 {W : World} {a : Nat} {t : TypeId} {v0 v1 : Value} (h : Blk W a t #[v0, v1]) : W.cell? ⟨a, 0, none⟩ = some v0 ∧ W.cell? ⟨a, 1, none⟩ = some v1 := ⟨h.cell 0, h.cell 1⟩
theorem Blk.z2 {W : World} {a : Nat} {t : TypeId} {cs : Array Value} (h : Blk W a t cs) : W.frozen? ⟨a, 0, none⟩ = false ∧ W.frozen? ⟨a, 1, none⟩ = false := ⟨h.frozen 0, h.frozen 1⟩
theorem Blk.q3 {W : World} {a : Nat} {t : TypeId} {v0 v1 v2 : Value} (h : Blk W a t #[v0, v1, v2]) : W.cell? ⟨a, 0, none⟩ = some v0 ∧ W.cell? ⟨a, 1, none⟩ = some v1 ∧ W.cell? ⟨a, 2, none⟩ = some v2 := ⟨h.cell 0, h.cell 1, h.cell 2⟩
theorem Blk.z3 {W : World} {a : Nat} {t : TypeId} {cs : Array Value} (h : Blk W a t cs) : W.frozen? ⟨a, 0, none⟩ = false ∧ W.frozen? ⟨a, 1, none⟩ = false ∧ W.frozen? ⟨a, 2, none⟩ = false := ⟨h.frozen 0, h.frozen 1, h.frozen 2⟩
theorem Blk.q4 {W : World} {a : Nat} {t : TypeId} {v0 v1 v2 v3 : Value} (h : Blk W a t #[v0, v1, v2, v3]) : W.cell? ⟨a, 0, none⟩ = some v0 ∧ W.cell? ⟨a, 1, none⟩ = some v1 ∧ W.cell? ⟨a, 2, none⟩ = some v2 ∧ W.cell? ⟨a, 3, none⟩ = some v3 := ⟨h.cell 0, h.cell 1, h.cell 2, h.cell 3⟩
theorem Blk.z4 {W : World} {a : Nat} {t : TypeId} {cs : Array Value} (h : Blk W a t cs) : W.frozen? ⟨a, 0, none⟩ = false ∧ W.frozen? ⟨a, 1, none⟩ = false ∧ W.frozen? ⟨a, 2, none⟩ = false ∧ W.frozen? ⟨a, 3, none⟩ = false := ⟨h.frozen 0, h.frozen 1, h.frozen 2, h.frozen 3⟩
theorem Blk.q5 {W : World} {a : Nat} {t : TypeId} {v0 v1 v2 v3 v4 : Value} (h : Blk W a t #[v0, v1, v2, v3, v4]) : W.cell? ⟨a, 0, none⟩ = some v0 ∧ W.cell? ⟨a, 1, none⟩ = some v1 ∧ W.cell? ⟨a, 2, none⟩ = some v2 ∧ W.cell? ⟨a, 3, none⟩ = some v3 ∧ W.cell? ⟨a, 4, none⟩ = some v4 := ⟨h.cell 0, h.cell 1, h.cell 2, h.cell 3, h.cell 4⟩
theorem Blk.q8 {W : World} {a : Nat} {t : TypeId} {v0 v1 v2 v3 v4 v5 v6 v7 : Value} (h : Blk W a t #[v0, v1, v2, v3, v4, v5, v6, v7]) : W.cell? ⟨a, 0, none⟩ = some v0 ∧ W.cell? ⟨a, 1, none⟩ = some v1 ∧ W.cell? ⟨a, 2, none⟩ = some v2 ∧ W.cell? ⟨a, 3, none⟩ = some v3 ∧ W.cell? ⟨a, 4, none⟩ = some v4 ∧ W.cell? ⟨a, 5, none⟩ = some v5 ∧ W.cell? ⟨a, 6, none⟩ = some v6 ∧ W.cell? ⟨a, 7, none⟩ = some v7 := ⟨h.cell 0, h.cell 1, h.cell 2, h.cell 3, h.cell 4, h.cell 5, h.cell 6, h.cell 7⟩
theorem Blk.z8 {W : World} {a : Nat} {t : TypeId} {cs : Array Value} (h : Blk W a t cs) : W.frozen? ⟨a, 0, none⟩ = false ∧ W.frozen? ⟨a, 1, none⟩ = false ∧ W.frozen? ⟨a, 2, none⟩ = false ∧ W.frozen? ⟨a, 3, none⟩ = false ∧ W.frozen? ⟨a, 4, none⟩ = false ∧ W.frozen? ⟨a, 5, none⟩ = false ∧ W.frozen? ⟨a, 6, none⟩ = false ∧ W.frozen? ⟨a, 7, none⟩ = false := ⟨h.frozen 0, h.frozen 1, h.frozen 2, h.frozen 3, h.frozen 4, h.frozen 5, h.frozen 6, h.frozen 7⟩
def KpC (P : World → Prop) : Prop := ∀ W W' : World, Kp W W' → P W → P W'
theorem VK.c {now : Int} {A : Option Addr} {l : List Ver} : KpC (fun W => VK W now A l) := fun _ _ hk h => h.kp hk
theorem WK.c {A : Option Addr} {l : List Wri} : KpC (fun W => WK W A l) := fun _ _ hk h => h.kp hk
theorem NK.c {A : Option Addr} {l : List Nm} : KpC (fun W => NK W A l) := fun _ _ hk h => h.kp hk
theorem RK.c {A : Option Addr} {l : List Row} {c : Nat} : KpC (fun W => RK W A l c) := fun _ _ hk h => h.kp hk
/-- a row of one's own, its elements no boxes -/
theorem own_kp {w w' : World} {B k n : Nat} {e : TypeId} {v : Value} {xs : List Value} (h : w.ownsRow B e k v n xs) (hk : Kp w w') (ht : e ∉ boxT) : w'.ownsRow B e k v n xs := by
  refine ⟨h.1, ?_⟩
  rcases h.2 with h2 | ⟨g, cap, cur, hv, hg, hh, r⟩
  · exact .inl h2
  · exact .inr ⟨g, cap, cur, hv, hg, hk.2 _ _ _ hh ht, r⟩
theorem OwnR.c {B : Nat} {v : Value} {l : List Row} : KpC (fun W => OwnR W B v l) := fun _ _ hk h => own_kp h hk (by decide)
def SP (w : World) (L : List (Nat × TypeId × Array Value)) (Ps : List (World → Prop)) (W : World) : Prop := Sts w L W ∧ ∀ P ∈ Ps, KpC P ∧ P W
/-- boxes made one behind the other -/
def allocAll (w : World) : List (TypeId × Array Value) → World
  | [] => w
  | (t, cs) :: r => allocAll (w.alloc (.cells cs t)) r
def boxesFrom (n : Nat) : List (TypeId × Array Value) → List (Nat × TypeId × Array Value)
  | [] => []
  | (t, cs) :: r => (n, t, cs) :: boxesFrom (n + 1) r
section
variable {w W W' : World} {L : List (Nat × TypeId × Array Value)} {Ps : List (World → Prop)}
theorem SP.below (h : SP w L Ps W) : Below w.heap.size w W := h.1.2.2
theorem SP.kp (h : SP w L Ps W) {P : World → Prop} (k : Nat) (hk : Ps[k]? = some P) : KpC P := (h.2 P (List.mem_of_getElem? hk)).1
theorem SP.get (h : SP w L Ps W) {P : World → Prop} (k : Nat) (hk : Ps[k]? = some P) : P W := (h.2 P (List.mem_of_getElem? hk)).2
theorem SP.blk (h : SP w L Ps W) (i : Nat) {a : Nat} {t : TypeId} {cs : Array Value} (hi : L[i]? = some (a, t, cs)) : Blk W a t cs := h.1.blk i hi
theorem SP.kept (h : SP w L Ps W) (hb : Below W.heap.size W W') : SP w L Ps W' := ⟨h.1.kept hb, fun P hP => ⟨(h.2 P hP).1, (h.2 P hP).1 _ _ (Kp.below hb) (h.2 P hP).2⟩⟩
theorem SP.alloc (h : SP w L Ps W) (t : TypeId) (cs : Array Value) : SP w (L ++ [(W.heap.size, t, cs)]) Ps (W.alloc (.cells cs t)) :=
  ⟨h.1.alloc t cs, fun P hP => ⟨(h.2 P hP).1, (h.2 P hP).1 _ _ (Kp.below ((Below.refl _ _).alloc (Nat.le_refl _) _)) (h.2 P hP).2⟩⟩
theorem SP.set (h : SP w L Ps W) (j i : Nat) (u : Value) {a : Nat} {t : TypeId} {cs : Array Value} (hj : L[j]? = some (a, t, cs)) (ht : t ∈ boxT) : SP w (L.set j (a, t, cs.setIfInBounds i u)) Ps (W.setCell ⟨a, i, none⟩ u) :=
  ⟨h.1.set j i u hj, fun P hP => ⟨(h.2 P hP).1, (h.2 P hP).1 _ _ ((Kp.refl W).set (h.1.blk j hj) ht u) (h.2 P hP).2⟩⟩
/-- the last stores of a call: a box of a type that slices may have, no facts kept -/
theorem SP.setN (h : SP w L Ps W) (j i : Nat) (u : Value) {a : Nat} {t : TypeId} {cs : Array Value} (hj : L[j]? = some (a, t, cs)) : SP w (L.set j (a, t, cs.setIfInBounds i u)) [] (W.setCell ⟨a, i, none⟩ u) := ⟨h.1.set j i u hj, fun P hP => absurd hP (by simp)⟩
theorem SP.add (h : SP w L Ps W) (P : World → Prop) (hc : KpC P) (hP : P W) : SP w L (Ps ++ [P]) W := ⟨h.1, fun Q hQ => by
  rcases List.mem_append.1 hQ with hQ | hQ
  · exact h.2 Q hQ
  · simp at hQ; subst hQ; exact ⟨hc, hP⟩⟩
/-- a box that was made behind the world of the bundle -/
theorem SP.addNew (h : SP w L Ps W) (hb : Below W.heap.size W W') {g : Nat} {t : TypeId} {cs : Array Value} (hB : Blk W' g t cs) (hg : W.heap.size ≤ g) : SP w (L ++ [(g, t, cs)]) Ps W' := by
  have h1 := h.kept hb
  refine ⟨⟨fun b hm => ?_, ?_, h1.1.2.2⟩, h1.2⟩
  · rcases List.mem_append.1 hm with hm | hm
    · exact h1.1.1 b hm
    · simp at hm; subst hm; exact ⟨Nat.le_trans h.1.2.2.size hg, hB⟩
  · rw [List.map_append, List.nodup_append]
    refine ⟨h1.1.2.1, by simp, fun x hx y hy => ?_⟩
    simp at hy; subst hy
    obtain ⟨b, hm, rfl⟩ := List.mem_map.1 hx
    have := (h.1.1 b hm).2.lt
    omega
theorem SP.boxes (h : SP w L Ps W) : ∀ (cs : List (TypeId × Array Value)), SP w (L ++ boxesFrom W.heap.size cs) Ps (allocAll W cs) := by
  intro cs
  induction cs generalizing L W with
  | nil => simpa [boxesFrom, allocAll] using h
  | cons x r ih =>
    obtain ⟨t, c⟩ := x
    have h1 := ih (h.alloc t c)
    rw [World.size_alloc, List.append_assoc] at h1
    exact h1
theorem SP.start (w : World) (cs : List (TypeId × Array Value)) : SP w (boxesFrom w.heap.size cs) [] (allocAll w cs) := by
  have h : SP w [] [] w := ⟨Sts.start w, fun P hP => absurd hP (by simp)⟩
  simpa using h.boxes cs
end
theorem allocAll_below (w : World) (cs : List (TypeId × Array Value)) : Below w.heap.size w (allocAll w cs) := (SP.start w cs).below
end Go.Proofs.Ytpjkcmmmpgncmaa
