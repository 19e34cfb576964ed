import Derived.Test.YtfmhhckkpenldaaGreatDoorM26
import Derived.Test.YtfmhhckkpenldaaGreatDoorL6A
import Derived.Deep.RegionHeld3
import Derived.Test.YtfmhhckkpenldaaGreatDoorL6W
import Derived.Test.YtfmhhckkpenldaaGreatDoorM24
import Derived.Test.YtfmhhckkpenldaaGreatDoorL2Some
import Derived.Test.YtfmhhckkpenldaaGreatDoorM03
/- The bundle while things are drawn, beside a row of letters of one's own and a letter's box. -/
namespace Go.Proofs.YtfmhhckkpenldaaGreatDoor
open Go.RowKit
theorem kpT_set {W : World} {g1 i : Nat} {cs : Array Value} (h : Blk W g1 31 cs) (u : Value) : KpT W (W.setCell ⟨g1, i, none⟩ u) :=
  ⟨by rw [World.size_setCell]; exact Nat.le_refl _, fun _ _ _ hb _ hn => hb.far (p := ⟨g1, i, none⟩) (blk_ne hb h hn) u⟩
theorem own_farL {W : World} {B k n g1 i : Nat} {e : TypeId} {v : Value} {xs : List Value} (h : W.ownsRow B e k v n xs) (hne : ∀ j, v.ownBlock = some j → j ≠ g1) (u : Value) : (W.setCell ⟨g1, i, none⟩ u).ownsRow B e k v n xs := by
  refine ⟨h.1, ?_⟩
  rcases h.2 with h2 | ⟨g, cap, cur, hv, hg, hh, r⟩
  · exact .inl h2
  · refine .inr ⟨g, cap, cur, hv, hg, ?_, r⟩
    have := hne g (by rw [hv]; rfl)
    exact (heap_setCell_other W ⟨g1, i, none⟩ g u this).trans hh
section
variable {w0 w W W' : World} {A : Option Addr} {bs : List UInt8} {c g q : Nat} {L : List (Nat × TypeId × Array Value)} {Ps : List (World → Prop)}
theorem SD.drop {b : Nat × TypeId × Array Value} (h : SD w0 A bs c g q w (L ++ [b]) Ps W) : SD w0 A bs c g q w L Ps W :=
  ⟨⟨fun x hx => h.1.1 x (List.mem_append.2 (.inl hx)), by have := h.1.2; rw [List.map_append, List.nodup_append] at this; exact this.1⟩, h.2⟩
theorem SD.only (h : SD w0 A bs c g q w L Ps W) (Qs : List (World → Prop)) (hq : ∀ P ∈ Qs, KpC P ∧ P W) : SD w0 A bs c g q w L Qs W := ⟨h.1, hq, h.2.2⟩
theorem SD.grownX (h : SD w0 A bs c g q w L Ps W) {B n : Nat} {v : Value} {xs : List Value} (ho : W.ownsRow B 31 2 v n xs) (hg : W.grownBy W' v.ownBlock) (hB : ∀ b ∈ L, ∀ j, v.ownBlock = some j → b.1 ≠ j) (hw : w.heap.size ≤ B) (hP : ∀ P ∈ Ps, KL P) : SD w0 A bs c g q w L Ps W' :=
  ⟨⟨fun b hm => ⟨(h.1.1 b hm).1, (h.1.1 b hm).2.grown hg (fun e => hB b hm _ e.symm rfl)⟩, h.1.2⟩, fun P hm => ⟨(h.2.1 P hm).1, hP P hm _ _ (kpT_own ho hg) (h.2.1 P hm).2⟩, h.rd.own hg (fun j hj => by have := own_ge ho hj; have := h.2.2.2.2; omega), gr_own h.gr hg (fun j hj => by have := own_ge ho hj; omega), h.2.2.2.2⟩
/-- a box that was made behind the world of the bundle -/
theorem SD.addBox (h : SD w0 A bs c g q w L Ps W) {b : Nat} {t : TypeId} {cs : Array Value} (hB : Blk W b t cs) (hg : w.heap.size ≤ b) (hn : ∀ x ∈ L, x.1 ≠ b) : SD w0 A bs c g q w (L ++ [(b, t, cs)]) Ps W := by
  refine ⟨⟨fun x hm => ?_, ?_⟩, h.2⟩
  · rcases List.mem_append.1 hm with hm | hm
    · exact h.1.1 x hm
    · simp at hm; subst hm; exact ⟨hg, hB⟩
  · rw [List.map_append, List.nodup_append]
    refine ⟨h.1.2, by simp, fun x hx y hy => ?_⟩
    simp at hy; subst hy
    obtain ⟨b', hm, rfl⟩ := List.mem_map.1 hx
    exact hn b' hm
theorem SD.setL (h : SD w0 A bs c g q w L Ps W) {g1 i : Nat} {u : Value} (hge : w.heap.size ≤ g1) (hn : ∀ b ∈ L, b.1 ≠ g1) (hP : ∀ P ∈ Ps, P (W.setCell ⟨g1, i, none⟩ u)) : SD w0 A bs c g q w L Ps (W.setCell ⟨g1, i, none⟩ u) := by
  have h1 := h.2.2.2.2
  have h2 := h.rd.2.2.1
  exact ⟨⟨fun b hm => ⟨(h.1.1 b hm).1, (h.1.1 b hm).2.far (p := ⟨g1, i, none⟩) (hn b hm) u⟩, h.1.2⟩, fun P hm => ⟨(h.2.1 P hm).1, hP P hm⟩, h.rd.farS (p := ⟨g1, i, none⟩) (by simp only; omega) (by simp only; omega) u, gr_far h.gr (p := ⟨g1, i, none⟩) hge u, h.2.2.2.2⟩
/-- a letter is laid into a box that was made before -/
theorem SD.letBox {now : Int} {A1 A2 A3 : Option Addr} {l : List Ver} {ws : List Wri} {ns : List Nm} {B : Nat} {v : Value} {LO : List Let} {g1 : Nat} {a0 a1 : Value} (h : SD w0 A bs c g q w L [fun W => VK W now A1 l, fun W => WK W A2 ws, fun W => NK W A3 ns, fun W => OwnL W B v LO] W)
    (hB : Blk W g1 31 #[a0, a1]) (hge : w.heap.size ≤ g1) (hn : ∀ b ∈ L, b.1 ≠ g1) (ho : ∀ j, v.ownBlock = some j → j ≠ g1) (u0 u1 : Value) :
    SD w0 A bs c g q w (L ++ [(g1, 31, #[u0, u1])]) [fun W => VK W now A1 l, fun W => WK W A2 ws, fun W => NK W A3 ns, fun W => OwnL W B v LO] ((W.setCell ⟨g1, 0, none⟩ u0).setCell ⟨g1, 1, none⟩ u1) := by
  have hB1 := hB.set_ 0 u0
  have step : ∀ (X : World) (i : Nat) (u : Value) (ds : Array Value), SD w0 A bs c g q w L [fun W => VK W now A1 l, fun W => WK W A2 ws, fun W => NK W A3 ns, fun W => OwnL W B v LO] X → Blk X g1 31 ds → SD w0 A bs c g q w L [fun W => VK W now A1 l, fun W => WK W A2 ws, fun W => NK W A3 ns, fun W => OwnL W B v LO] (X.setCell ⟨g1, i, none⟩ u) := fun X i u ds hX hd => by
    refine hX.setL hge hn ?_
    refine List.forall_mem_cons.2 ⟨VK.l _ _ (kpT_set hd u) (hX.get 0 rfl), List.forall_mem_cons.2 ⟨WK.l _ _ (kpT_set hd u) (hX.get 1 rfl), List.forall_mem_cons.2 ⟨NK.l _ _ (kpT_set hd u) (hX.get 2 rfl), List.forall_mem_cons.2 ⟨own_farL (hX.get 3 rfl) ho u, fun P hP => absurd hP (by simp)⟩⟩⟩⟩
  have h2 := step _ 1 u1 _ (step W 0 u0 _ h hB) hB1
  exact h2.addBox (hB1.set_ 1 u1) hge hn
end
end Go.Proofs.YtfmhhckkpenldaaGreatDoor
/- A walk through a region that draws its order: what the loads read is held up to one operation (a store into what was read), behind which nothing is loaded any more. -/
namespace Go.Proofs.YtfmhhckkpenldaaGreatDoor
section
variable {P : Program} {ops : Array Oper} {Q : Exit → Act → World → Prop} {md : Region.Mode} {S : World → Prop} {m : Nat}
/-- S holds behind every operation up to number m -/
def wpAnyM (P : Program) (md : Region.Mode) (ops : Array Oper) (Q : Exit → Act → World → Prop) (S : World → Prop) (m : Nat) : Nat → Array Bool → Act → World → Prop
  | 0, listed, a, w => Region.ready md ops listed = [] ∧ Q .normal a w
  | fuel + 1, listed, a, w =>
    (Region.ready md ops listed = [] → Q .normal a w) ∧
    ∀ i ∈ Region.ready md ops listed, wpOp P ops Q i (fun a' w' => (i = m → wpAny P md ops Q fuel (listed.setIfInBounds i true) a' w') ∧ (i ≠ m → S w' ∧ wpAnyM P md ops Q S m fuel (listed.setIfInBounds i true) a' w')) a w
theorem wpAny_of_M : ∀ (fuel : Nat) (listed : Array Bool) (a : Act) (w : World), wpAnyM P md ops Q S m fuel listed a w → wpAny P md ops Q fuel listed a w
  | 0, _, _, _, h => h
  | fuel + 1, _, _, _, h => ⟨h.1, fun i hi => wpOp_mono (fun a' w' h' => by
      by_cases him : i = m
      · exact h'.1 him
      · exact wpAny_of_M fuel _ a' w' (h'.2 him).2) (h.2 i hi)⟩
theorem wpAnyM_first {i : Nat} {oi : Oper} {v : Value} (hi : ops[i]? = some oi) (hsel : ∀ (j : Nat) (o : Oper) cs b, ops[j]? = some o → o.op ≠ .select cs b)
    (hQ : ∀ c a w, Q (.panic c) (a.put oi.dst v) w → Q (.panic c) a w) (him : i ≠ m) (hm : ∀ o, ops[m]? = some o → ∃ e ∈ o.after, Region.binds md e = true ∧ e.on = i) :
    ∀ (fuel : Nat) (listed : Array Bool) (a : Act) (w : World),
      (∀ j oj, ops[j]? = some oj → j ≠ i → listed.getD j true = false → (∀ e ∈ oj.after, Region.binds md e = true → e.on ≠ i) → oi.apart ops oj = true) →
      i ∈ Region.ready md ops listed → YieldsIf P ops S oi v a → S w →
      wpAnyM P md ops Q S m fuel (listed.setIfInBounds i true) (a.put oi.dst v) w → wpAnyM P md ops Q S m (fuel + 1) listed a w := by
  intro fuel
  induction fuel with
  | zero =>
    intro listed a w _ hr hy hS H
    refine ⟨fun h => (by rw [h] at hr; cases hr), fun j hj => ?_⟩
    by_cases hji : j = i
    · subst hji; exact hy.wpOp hi hS ⟨fun h => absurd h him, fun _ => ⟨hS, H⟩⟩
    · have := ready_mono hj hji
      rw [H.1] at this
      cases this
  | succ fuel ih =>
    intro listed a w hfree hr hy hS H
    refine ⟨fun h => (by rw [h] at hr; cases hr), fun j hj => ?_⟩
    by_cases hji : j = i
    · subst hji; exact hy.wpOp hi hS ⟨fun h => absurd h him, fun _ => ⟨hS, H⟩⟩
    · have h1 := H.2 j (ready_mono hj hji)
      obtain ⟨hjun, oj, hoj, hall⟩ := mem_ready.1 hj
      have hnot : ∀ e ∈ oj.after, Region.binds md e = true → e.on ≠ i := fun e he hb heq => by
        have h1 := hall e he hb
        have h0 := (mem_ready.1 hr).1
        rw [heq] at h1
        rcases Nat.lt_or_ge i listed.size with h' | h'
        · simp [h'] at h0 h1; rw [h0] at h1; cases h1
        · simp [Array.getElem?_eq_none h'] at h1
      have hjm : j ≠ m := fun e => by
        subst e
        obtain ⟨e, he, hb, ho⟩ := hm oj hoj
        exact hnot e he hb ho
      have h2 := wpOp_putIf hoj (hfree j oj hoj hji hjun hnot) (fun cs b => hsel i oi cs b hi) (fun cs b => hsel j oj cs b hoj) hQ hy h1
      have hfree' : ∀ k ok, ops[k]? = some ok → k ≠ i → (listed.setIfInBounds j true).getD k true = false →
          (∀ e ∈ ok.after, Region.binds md e = true → e.on ≠ i) → oi.apart ops ok = true := fun k ok hk hki hun hno => by
        refine hfree k ok hk hki ?_ hno
        by_cases hjk : j = k
        · subst hjk; exact hjun
        · rw [getD_set_ne true hjk] at hun; exact hun
      refine wpOp_mono (fun a' w' h3 => ⟨fun e => absurd e hjm, fun _ => ?_⟩) h2
      obtain ⟨hS', hW'⟩ := h3.2.2 hjm
      refine ⟨hS', ih (listed.setIfInBounds j true) a' w' hfree' (ready_mono hr (Ne.symm hji)) h3.1 hS' ?_⟩
      rw [Array.setIfInBounds_comm _ _ hji]
      exact hW'
def waitsOn (md : Region.Mode) (ops : Array Oper) (m i : Nat) : Bool := (ops[m]?).all (fun o => o.after.any (fun e => Region.binds md e && e.on == i))
theorem waitsOn_spec {i : Nat} (h : waitsOn md ops m i = true) : ∀ o, ops[m]? = some o → ∃ e ∈ o.after, Region.binds md e = true ∧ e.on = i := by
  intro o ho
  unfold waitsOn at h
  rw [ho] at h
  simp at h
  obtain ⟨x, hx, h1, h2⟩ := h
  first
    | exact ⟨_, Array.getElem_mem (by assumption), h1, h2⟩
    | exact ⟨x, hx, h1, h2⟩
theorem wpAnyM_take {i : Nat} {oi : Oper} {v : Value} {fuel : Nat} {listed : Array Bool} {a : Act} {w : World} (hi : ops[i]? = some oi)
    (hs : Region.noSelect ops = true) (hf : Region.free md ops listed i = true) (hr : (Region.ready md ops listed).contains i = true) (hw : waitsOn md ops m i = true) (him : i ≠ m)
    (hQ : ∀ c a w, Q (.panic c) (a.put oi.dst v) w → Q (.panic c) a w) (hy : YieldsIf P ops S oi v a) (hS : S w)
    (h : wpAnyM P md ops Q S m fuel (listed.setIfInBounds i true) (a.put oi.dst v) w) : wpAnyM P md ops Q S m (fuel + 1) listed a w :=
  wpAnyM_first hi (Region.noSelect_spec hs) hQ him (waitsOn_spec hw) fuel listed a w (Region.free_spec hi hf) (by simpa using hr) hy hS h
/-- what yields in whatever world is taken first, whether number m waits for it or not -/
theorem wpAnyM_firstP {i : Nat} {oi : Oper} {v : Value} (hi : ops[i]? = some oi) (hsel : ∀ (j : Nat) (o : Oper) cs b, ops[j]? = some o → o.op ≠ .select cs b)
    (hQ : ∀ c a w, Q (.panic c) (a.put oi.dst v) w → Q (.panic c) a w) (him : i ≠ m) :
    ∀ (fuel : Nat) (listed : Array Bool) (a : Act) (w : World),
      (∀ j oj, ops[j]? = some oj → j ≠ i → listed.getD j true = false → (∀ e ∈ oj.after, Region.binds md e = true → e.on ≠ i) → oi.apart ops oj = true) →
      i ∈ Region.ready md ops listed → Yields P ops oi v a → S w →
      wpAnyM P md ops Q S m fuel (listed.setIfInBounds i true) (a.put oi.dst v) w → wpAnyM P md ops Q S m (fuel + 1) listed a w := by
  intro fuel
  induction fuel with
  | zero =>
    intro listed a w _ hr hy hS H
    refine ⟨fun h => (by rw [h] at hr; cases hr), fun j hj => ?_⟩
    by_cases hji : j = i
    · subst hji; exact hy.wpOp hi ⟨fun h => absurd h him, fun _ => ⟨hS, H⟩⟩
    · have := ready_mono hj hji
      rw [H.1] at this
      cases this
  | succ fuel ih =>
    intro listed a w hfree hr hy hS H
    refine ⟨fun h => (by rw [h] at hr; cases hr), fun j hj => ?_⟩
    by_cases hji : j = i
    · subst hji; exact hy.wpOp hi ⟨fun h => absurd h him, fun _ => ⟨hS, H⟩⟩
    · have h1 := H.2 j (ready_mono hj hji)
      obtain ⟨hjun, oj, hoj, hall⟩ := mem_ready.1 hj
      have hnot : ∀ e ∈ oj.after, Region.binds md e = true → e.on ≠ i := fun e he hb heq => by
        have h1 := hall e he hb
        have h0 := (mem_ready.1 hr).1
        rw [heq] at h1
        rcases Nat.lt_or_ge i listed.size with h' | h'
        · simp [h'] at h0 h1; rw [h0] at h1; cases h1
        · simp [Array.getElem?_eq_none h'] at h1
      have h2 := wpOp_put hoj (hfree j oj hoj hji hjun hnot) (fun cs b => hsel i oi cs b hi) (fun cs b => hsel j oj cs b hoj) hQ hy h1
      have hfree' : ∀ k ok, ops[k]? = some ok → k ≠ i → (listed.setIfInBounds j true).getD k true = false →
          (∀ e ∈ ok.after, Region.binds md e = true → e.on ≠ i) → oi.apart ops ok = true := fun k ok hk hki hun hno => by
        refine hfree k ok hk hki ?_ hno
        by_cases hjk : j = k
        · subst hjk; exact hjun
        · rw [getD_set_ne true hjk] at hun; exact hun
      refine wpOp_mono (fun a' w' h3 => ⟨fun e => ?_, fun hjm => ?_⟩) h2
      · have hW' := h3.2.1 e
        rw [Array.setIfInBounds_comm _ _ (Ne.symm hji)] at hW'
        exact wpAny_first hi hsel hQ fuel (listed.setIfInBounds j true) a' w' hfree' (ready_mono hr (Ne.symm hji)) h3.1 hW'
      · obtain ⟨hS', hW'⟩ := h3.2.2 hjm
        refine ⟨hS', ih (listed.setIfInBounds j true) a' w' hfree' (ready_mono hr (Ne.symm hji)) h3.1 hS' ?_⟩
        rw [Array.setIfInBounds_comm _ _ hji]
        exact hW'
theorem wpAnyM_takeP {i : Nat} {oi : Oper} {v : Value} {fuel : Nat} {listed : Array Bool} {a : Act} {w : World} (hi : ops[i]? = some oi)
    (hs : Region.noSelect ops = true) (hf : Region.free md ops listed i = true) (hr : (Region.ready md ops listed).contains i = true) (him : i ≠ m)
    (hQ : ∀ c a w, Q (.panic c) (a.put oi.dst v) w → Q (.panic c) a w) (hy : Yields P ops oi v a) (hS : S w)
    (h : wpAnyM P md ops Q S m fuel (listed.setIfInBounds i true) (a.put oi.dst v) w) : wpAnyM P md ops Q S m (fuel + 1) listed a w :=
  wpAnyM_firstP hi (Region.noSelect_spec hs) hQ him fuel listed a w (Region.free_spec hi hf) (by simpa using hr) hy hS h
theorem wpAnyM_step {i : Nat} {o : Oper} {fuel : Nat} {listed : Array Bool} {a : Act} {w : World} (hr : Region.ready md ops listed = [i]) (ho : ops[i]? = some o) (him : i ≠ m)
    (h : ∀ K' : Act → World → Prop, Shut (∀ a w, S w → (S w → wpAnyM P md ops Q S m fuel (listed.setIfInBounds i true) a w) → K' a w) → if Region.wanted o (yielded ops a.tmps) = true then Oper.wp P o a w K' Q else K' (a.put o.dst undef) w) :
    wpAnyM P md ops Q S m (fuel + 1) listed a w := by
  refine ⟨fun h0 => ?_, fun j hj => ?_⟩
  · rw [hr] at h0; cases h0
  · rw [hr] at hj
    obtain rfl : j = i := by simpa using hj
    exact wpOp_step ho (fun K' hK => h K' (fun a w hS hW => hK a w ⟨fun e => absurd e him, fun _ => ⟨hS, hW hS⟩⟩))
theorem wpAnyM_last {o : Oper} {fuel : Nat} {listed : Array Bool} {a : Act} {w : World} (hr : Region.ready md ops listed = [m]) (ho : ops[m]? = some o)
    (h : ∀ K' : Act → World → Prop, Shut (∀ a w, wpAny P md ops Q fuel (listed.setIfInBounds m true) a w → K' a w) → if Region.wanted o (yielded ops a.tmps) = true then Oper.wp P o a w K' Q else K' (a.put o.dst undef) w) :
    wpAnyM P md ops Q S m (fuel + 1) listed a w := by
  refine ⟨fun h0 => ?_, fun j hj => ?_⟩
  · rw [hr] at h0; cases h0
  · rw [hr] at hj
    obtain rfl : j = m := by simpa using hj
    exact wpOp_step ho (fun K' hK => h K' (fun a w hW => hK a w ⟨fun _ => hW, fun e => absurd rfl e⟩))
theorem wpAny_step {i : Nat} {o : Oper} {fuel : Nat} {listed : Array Bool} {a : Act} {w : World} (hr : Region.ready md ops listed = [i]) (ho : ops[i]? = some o)
    (h : ∀ K' : Act → World → Prop, Shut (∀ a w, wpAny P md ops Q fuel (listed.setIfInBounds i true) a w → K' a w) → if Region.wanted o (yielded ops a.tmps) = true then Oper.wp P o a w K' Q else K' (a.put o.dst undef) w) :
    wpAny P md ops Q (fuel + 1) listed a w := by
  refine ⟨fun h0 => ?_, fun j hj => ?_⟩
  · rw [hr] at h0; cases h0
  · rw [hr] at hj
    obtain rfl : j = i := by simpa using hj
    exact wpOp_step ho (fun K' hK => h K' hK)
/-- the beginning -/
theorem wp_region_M {id : Nat} {a : Act} {w : World} (S : World → Prop) (m : Nat) (hm : P.follows .mixedOrders = true) (hS : S w.drew)
    (h : S w.drew → wpAnyM P .any ops Q S m ops.size (Array.replicate ops.size false) a w.drew) : (Code.region id ops true).wp P Q a w :=
  wp_region_any hm (wpAny_of_M _ _ _ _ (h hS))
end
end Go.Proofs.YtfmhhckkpenldaaGreatDoor
/- The reference's l6List: letters to one who talks are drawn. -/
namespace Go.Proofs.YtfmhhckkpenldaaGreatDoor
open Go.RowKit
/-- how l6List leaves -/
def ListD (u0 w : World) (RA : Option Addr) (rb : List UInt8) (rc g p n : Nat) (e : Ending) (w' : World) : Prop :=
  ∃ (A4 : Option Addr) (L : List Let) (c4 q : Nat), e = .returned (.slice A4 L.length c4) ∧ LN w' A4 L 20 ∧ L.length ≤ c4 ∧ c4 ≤ maxLen ∧ q ≤ p + n ∧ Rd u0 w' RA rb rc g q ∧ w.grownBy w' (some g)
set_option maxRecDepth 100000 in
set_option maxHeartbeats 16000000 in
theorem l6List_any (u0 : World) (RA : Option Addr) (rb : List UInt8) (rc g p : Nat) (now0 : Int) (A0 : Option Addr) (l0 : List Ver) (c0 : Nat) (on0 bad0 : Bool) (t0 : Int) (A20 : Option Addr) (ws0 : List Wri) (c20 : Nat) (A30 : Option Addr) (ns0 : List Nm) (c30 : Nat) (skip0 gone0 : Bool) (inb0 : ByteArray) (n : Nat) (w : World) (hR : Rd u0 w RA rb rc g p) (hp : p < 600000) (hV : VK w now0 A0 l0) (hW : WK w A20 ws0) (hN : NK w A30 ns0) (hn : n ≤ 8) :
    Calls Tryz.prog 14 #[.pointer (some ⟨g, 0, none⟩), .agg #[.int .i64 now0, .slice A0 l0.length c0], .agg #[.bool on0, .bool bad0, .int .i64 t0, .slice A20 ws0.length c20, .slice A30 ns0.length c30, .bool skip0, .bool gone0, .string inb0], .int .i64 n] w (ListD u0 w RA rb rc g p 600) := by
  have hbE := allocAll_below w [(36, #[.int .i64 now0, .slice A0 l0.length c0]), (44, #[.bool on0, .bool bad0, .int .i64 t0, .slice A20 ws0.length c20, .slice A30 ns0.length c30, .bool skip0, .bool gone0, .string inb0])]
  have H : Hid (SD u0 RA rb rc g p w [(w.heap.size, 36, #[.int .i64 now0, .slice A0 l0.length c0]), (w.heap.size + 1, 44, #[.bool on0, .bool bad0, .int .i64 t0, .slice A20 ws0.length c20, .slice A30 ns0.length c30, .bool skip0, .bool gone0, .string inb0])] [fun W => VK W now0 A0 l0, fun W => WK W A20 ws0, fun W => NK W A30 ns0] ((allocAll w [(36, #[.int .i64 now0, .slice A0 l0.length c0]), (44, #[.bool on0, .bool bad0, .int .i64 t0, .slice A20 ws0.length c20, .slice A30 ns0.length c30, .bool skip0, .bool gone0, .string inb0])]))) := Lib.hid (SD.add (SD.add (SD.add (SD.start hR [(36, #[.int .i64 now0, .slice A0 l0.length c0]), (44, #[.bool on0, .bool bad0, .int .i64 t0, .slice A20 ws0.length c20, .slice A30 ns0.length c30, .bool skip0, .bool gone0, .string inb0])]) _ VK.c (VK.c _ _ (Kp.below hbE) hV)) _ WK.c (WK.c _ _ (Kp.below hbE) hW)) _ NK.c (NK.c _ _ (Kp.below hbE) hN))
  clear hbE
  go_enter Tryz.func14, Tryz.ntmps14
  clear hV hW hN hR
  go_upto_region 1 with fail
  change Code.wp _ _ _ _ (allocAll w [(36, #[.int .i64 now0, .slice A0 l0.length c0]), (44, #[.bool on0, .bool bad0, .int .i64 t0, .slice A20 ws0.length c20, .slice A30 ns0.length c30, .bool skip0, .bool gone0, .string inb0])])
  generalize (allocAll w [(36, #[.int .i64 now0, .slice A0 l0.length c0]), (44, #[.bool on0, .bool bad0, .int .i64 t0, .slice A20 ws0.length c20, .slice A30 ns0.length c30, .bool skip0, .bool gone0, .string inb0])]) = v0 at *
  have hb1 : w.heap.size + 1 < v0.heap.size := (H.out.blk 1 rfl).lt
  have hgw : g < w.heap.size := H.out.2.2.2.2
  have hO := ownL_nil v0 v0.heap.size v0.heap.size rfl (Nat.le_refl _)
  have HS := Lib.hid (SD.add (H.out.kept (kFF v0 (.cells #[] 31))) (fun W => OwnL W v0.heap.size (.slice (some ⟨v0.heap.size, 0, none⟩) ([] : List Let).length 0) []) OwnL.c hO)
  clear H hO
  go_wp2
  go_loopw [9, 10, 11] (fun v9 i v11 wr => ∃ (k q : Nat) (AO : Option Addr) (LO : List Let) (cO : Nat) (now : Int) (A : Option Addr) (l : List Ver) (c : Nat) (on bad : Bool) (t : Int) (A2 : Option Addr) (ws : List Wri) (c2 : Nat) (A3 : Option Addr) (ns : List Nm) (c3 : Nat) (skip gone : Bool) (inb : ByteArray), k ≤ n ∧ q ≤ p + 60 * k ∧ i = .int .i64 k ∧ v9 = .slice AO LO.length cO ∧ Hid (LO.length = k ∧ AllL LO) ∧ v0.heap.size ≤ wr.heap.size ∧ Hid (SD u0 RA rb rc g q w [(w.heap.size, 36, #[.int .i64 now, .slice A l.length c]), (w.heap.size + 1, 44, #[.bool on, .bool bad, .int .i64 t, .slice A2 ws.length c2, .slice A3 ns.length c3, .bool skip, .bool gone, .string inb])] [fun W => VK W now A l, fun W => WK W A2 ws, fun W => NK W A3 ns, fun W => OwnL W v0.heap.size (.slice AO LO.length cO) LO] wr)) (fun _ i _ _ => n - (intOf i).toNat)
  case atStart => exact ⟨0, p, _, [], 0, now0, A0, l0, c0, on0, bad0, t0, A20, ws0, c20, A30, ns0, c30, skip0, gone0, inb0, Nat.zero_le _, Nat.le_refl _, rfl, rfl, Lib.hid ⟨rfl, AllL.nil⟩, by simp, HS⟩
  case round =>
    clear HS
    obtain ⟨k, q, AO, LO, cO, now, A, l, c, on, bad, t, A2, ws, c2, A3, ns, c3, skip, gone, inb, hk, hq, rfl, rfl, HLO, hwr, HQ⟩ := hrel
    have H := Lib.hid HQ.out
    clear HQ
    have hl60 : l.length ≤ 60 := (H.out.get 0 rfl).2.2.1
    by_cases hlt : k < n
    case neg =>
      obtain rfl : k = n := by omega
      have hkk : ¬ (k : Int) < (k : Int) := by omega
      obtain ⟨hc1, hc2⟩ : LO.length ≤ cO ∧ cO ≤ maxLen := by
        obtain ⟨A9, c9, e9, h1, h2, _⟩ := (H.out.get 3 rfl).sl
        injection e9 with _ _ e9
        subst e9
        exact ⟨h1, h2⟩
      go_wp2
      go_ret
      exact ⟨AO, LO, cO, q, rfl, LN.of (H.out.get 3 rfl) HLO.out.2 (by have := HLO.out.1; omega), hc1, hc2, by omega, H.out.rd, H.out.gr⟩
    have hki : (k : Int) < (n : Int) := by omega
    have HLT : Hid (∀ j, (Value.slice AO LO.length cO).ownBlock = some j → j < wr.heap.size) := Lib.hid (fun j hj => ((H.out.get 3 rfl).lt j hj).2)
    go_upto_region 5 with fail
    go_cut [11] (fun v11 wx => ∃ (g11 : Nat) (sg bd : ByteArray) (q1 : Nat), v11 = .pointer (some ⟨g11, 0, none⟩) ∧ Hid (LetS (sg, bd)) ∧ q1 ≤ q + 60 ∧ w.heap.size + 1 < g11 ∧ v0.heap.size ≤ wx.heap.size ∧ Hid (∀ j, (Value.slice AO LO.length cO).ownBlock = some j → j ≠ g11) ∧ Hid (SD u0 RA rb rc g q1 w [(w.heap.size, 36, #[.int .i64 now, .slice A l.length c]), (w.heap.size + 1, 44, #[.bool on, .bool bad, .int .i64 t, .slice A2 ws.length c2, .slice A3 ns.length c3, .bool skip, .bool gone, .string inb]), (g11, 31, #[.string sg, .string bd])] [fun W => VK W now A l, fun W => WK W A2 ws, fun W => NK W A3 ns, fun W => OwnL W v0.heap.size (.slice AO LO.length cO) LO] wx))
    case first =>
      have hB0_0 : ∀ W : World, Blk W (w.heap.size) 36 #[.int .i64 now, .slice A l.length c] → W.cell? ⟨w.heap.size, 0, none⟩ = some (.int .i64 now) := fun W h => h.cell 0
      have hB0_1 : ∀ W : World, Blk W (w.heap.size) 36 #[.int .i64 now, .slice A l.length c] → W.cell? ⟨w.heap.size, 1, none⟩ = some (.slice A l.length c) := fun W h => h.cell 1
      have hB1_0 : ∀ W : World, Blk W (w.heap.size + 1) 44 #[.bool on, .bool bad, .int .i64 t, .slice A2 ws.length c2, .slice A3 ns.length c3, .bool skip, .bool gone, .string inb] → W.cell? ⟨w.heap.size + 1, 0, none⟩ = some (.bool on) := fun W h => h.cell 0
      have hB1_1 : ∀ W : World, Blk W (w.heap.size + 1) 44 #[.bool on, .bool bad, .int .i64 t, .slice A2 ws.length c2, .slice A3 ns.length c3, .bool skip, .bool gone, .string inb] → W.cell? ⟨w.heap.size + 1, 1, none⟩ = some (.bool bad) := fun W h => h.cell 1
      have hB1_2 : ∀ W : World, Blk W (w.heap.size + 1) 44 #[.bool on, .bool bad, .int .i64 t, .slice A2 ws.length c2, .slice A3 ns.length c3, .bool skip, .bool gone, .string inb] → W.cell? ⟨w.heap.size + 1, 2, none⟩ = some (.int .i64 t) := fun W h => h.cell 2
      have hB1_3 : ∀ W : World, Blk W (w.heap.size + 1) 44 #[.bool on, .bool bad, .int .i64 t, .slice A2 ws.length c2, .slice A3 ns.length c3, .bool skip, .bool gone, .string inb] → W.cell? ⟨w.heap.size + 1, 3, none⟩ = some (.slice A2 ws.length c2) := fun W h => h.cell 3
      have hB1_4 : ∀ W : World, Blk W (w.heap.size + 1) 44 #[.bool on, .bool bad, .int .i64 t, .slice A2 ws.length c2, .slice A3 ns.length c3, .bool skip, .bool gone, .string inb] → W.cell? ⟨w.heap.size + 1, 4, none⟩ = some (.slice A3 ns.length c3) := fun W h => h.cell 4
      have hB1_5 : ∀ W : World, Blk W (w.heap.size + 1) 44 #[.bool on, .bool bad, .int .i64 t, .slice A2 ws.length c2, .slice A3 ns.length c3, .bool skip, .bool gone, .string inb] → W.cell? ⟨w.heap.size + 1, 5, none⟩ = some (.bool skip) := fun W h => h.cell 5
      have hB1_6 : ∀ W : World, Blk W (w.heap.size + 1) 44 #[.bool on, .bool bad, .int .i64 t, .slice A2 ws.length c2, .slice A3 ns.length c3, .bool skip, .bool gone, .string inb] → W.cell? ⟨w.heap.size + 1, 6, none⟩ = some (.bool gone) := fun W h => h.cell 6
      have hB1_7 : ∀ W : World, Blk W (w.heap.size + 1) 44 #[.bool on, .bool bad, .int .i64 t, .slice A2 ws.length c2, .slice A3 ns.length c3, .bool skip, .bool gone, .string inb] → W.cell? ⟨w.heap.size + 1, 7, none⟩ = some (.string inb) := fun W h => h.cell 7
      have hb5 : Blk wr (w.heap.size) 36 #[.int .i64 now, .slice A l.length c] := H.out.blk 0 rfl
      have hb6 : Blk wr (w.heap.size + 1) 44 #[.bool on, .bool bad, .int .i64 t, .slice A2 ws.length c2, .slice A3 ns.length c3, .bool skip, .bool gone, .string inb] := H.out.blk 1 rfl
      go_wp2_with fail
      have H0 := Lib.hid H.out
      replace H := Lib.hid (H.out.kept (kDB wr))
      go_region_held3 (fun W => Blk W (w.heap.size) 36 #[.int .i64 now, .slice A l.length c] ∧ Blk W (w.heap.size + 1) 44 #[.bool on, .bool bad, .int .i64 t, .slice A2 ws.length c2, .slice A3 ns.length c3, .bool skip, .bool gone, .string inb])
        ((refine ⟨?_, ?_⟩ <;> (repeat (first | (with_reducible assumption) | (with_reducible refine Blk.drew ?_) | (with_reducible refine Blk.alloc ?_ _) | (with_reducible refine Blk.far ?_ (by simp <;> omega) _)))))
        (first
          | (with_reducible show Calls _ _ _ (World.drew wr) _
             go_at_call 24
             refine (l2At_any A l c now now _ (by omega) (VK.sl (H.out.get 0 rfl))).mono ?_
             rintro e wz ⟨v, rfl, hov, hbz⟩
             obtain ⟨rs, hrs⟩ : ∃ rs, rs = atL l now := ⟨_, rfl⟩
             have HRF := Lib.hid (show rs.length ≤ 1000 ∧ (∀ x ∈ rs, x.1.size ≤ maxLen) from ⟨by rw [hrs]; have := atL_le l now; omega, by rw [hrs]; exact atL_fits (H0.out.get 0 rfl).2.1⟩)
             rw [← hrs] at hov
             have hoR : OwnR wz wr.heap.size v rs := Go.Joins.ownsRow_le hov (Nat.le_refl _)
             obtain ⟨AR, cR, rfl, _, _, hsR⟩ := hoR.sl
             have HRS := Lib.hid hsR
             have hgr : g < wr.heap.size := Nat.lt_of_lt_of_le hgw (Nat.le_trans (Nat.le_trans (Nat.le_succ _) (Nat.le_of_lt hb1)) hwr)
             have HNE : Hid (∀ b o, AR = some ⟨b, o, none⟩ → b ≠ g ∧ b < wz.heap.size) := Lib.hid (fun b o e => by have h9 := hoR.lt b (by rw [e]; rfl); omega)
             have hzS : wr.heap.size ≤ wz.heap.size := hbz.size
             replace H := Lib.hid (H.out.kept hbz)
             have hc0 : Blk wz (w.heap.size) 36 #[.int .i64 now, .slice A l.length c] := H.out.blk 0 rfl
             have hc1 : Blk wz (w.heap.size + 1) 44 #[.bool on, .bool bad, .int .i64 t, .slice A2 ws.length c2, .slice A3 ns.length c3, .bool skip, .bool gone, .string inb] := H.out.blk 1 rfl
             clear hov hoR hsR hrs hbz)
          | (with_reducible show Calls _ _ _ (World.drew (World.alloc wr _)) _
             go_at_call 24
             refine (l2At_any A l c now now _ (by omega) (VK.sl ((H0.out.kept (kFF wr (.cells #[.string ⟨#[]⟩, .string ⟨#[]⟩] 31)).drew).get 0 rfl))).mono ?_
             rintro e wz ⟨v, rfl, hov, hbz⟩
             obtain ⟨rs, hrs⟩ : ∃ rs, rs = atL l now := ⟨_, rfl⟩
             have HRF := Lib.hid (show rs.length ≤ 1000 ∧ (∀ x ∈ rs, x.1.size ≤ maxLen) from ⟨by rw [hrs]; have := atL_le l now; omega, by rw [hrs]; exact atL_fits (H0.out.get 0 rfl).2.1⟩)
             rw [← hrs] at hov
             have hoR : OwnR wz wr.heap.size v rs := Go.Joins.ownsRow_le hov (by show wr.heap.size ≤ (wr.alloc _).heap.size; rw [World.size_alloc]; exact Nat.le_succ _)
             obtain ⟨AR, cR, rfl, _, _, hsR⟩ := hoR.sl
             have HRS := Lib.hid hsR
             have hgr : g < wr.heap.size := Nat.lt_of_lt_of_le hgw (Nat.le_trans (Nat.le_trans (Nat.le_succ _) (Nat.le_of_lt hb1)) hwr)
             have HNE : Hid (∀ b o, AR = some ⟨b, o, none⟩ → b ≠ g ∧ b < wz.heap.size) := Lib.hid (fun b o e => by have h9 := hoR.lt b (by rw [e]; rfl); omega)
             have hzS : wr.heap.size ≤ wz.heap.size := Nat.le_trans (by simp) hbz.size
             have HBX := Lib.hid ((Blk.new wr 31 #[.string ⟨#[]⟩, .string ⟨#[]⟩]).drew.kept hbz)
             have hg11 : wr.heap.size < wz.heap.size := HBX.out.lt
             replace H := Lib.hid ((H0.out.kept (kFF wr (.cells #[.string ⟨#[]⟩, .string ⟨#[]⟩] 31)).drew).kept hbz)
             have hc0 : Blk wz (w.heap.size) 36 #[.int .i64 now, .slice A l.length c] := H.out.blk 0 rfl
             have hc1 : Blk wz (w.heap.size + 1) 44 #[.bool on, .bool bad, .int .i64 t, .slice A2 ws.length c2, .slice A3 ns.length c3, .bool skip, .bool gone, .string inb] := H.out.blk 1 rfl
             clear hov hoR hsR hrs hbz)
          | (with_reducible show Calls _ _ _ wz _
             go_at_call 30
             refine (l6Draw_any u0 RA rb rc g q AR rs cR A3 ns c3 _ H.out.rd (by omega) HRF.out.1 HRF.out.2 HRS.out HNE.out (H.out.get 2 rfl)).mono ?_
             rintro e v1 ⟨x, q1, rfl, hx, hq1, hR9, hG9⟩
             obtain ⟨sg, bd⟩ := x
             have HLS := Lib.hid hx
             first
             | (replace HBX := Lib.hid (Blk.grown HBX.out hG9 (by simp; omega)); have hy0 : v1.cell? ⟨wr.heap.size, 0, none⟩ = some (.string ⟨#[]⟩) := HBX.out.cell 0; have hy1 : v1.cell? ⟨wr.heap.size, 1, none⟩ = some (.string ⟨#[]⟩) := HBX.out.cell 1; have hyf := fun j => HBX.out.frozen j; have hyl := HBX.out.lt)
             | skip
             have hvS : wr.heap.size ≤ v1.heap.size := Nat.le_trans hzS hG9.size
             replace H := Lib.hid (H.out.draw hR9 hG9)
             have hc0 : Blk v1 (w.heap.size) 36 #[.int .i64 now, .slice A l.length c] := H.out.blk 0 rfl
             have hc1 : Blk v1 (w.heap.size + 1) 44 #[.bool on, .bool bad, .int .i64 t, .slice A2 ws.length c2, .slice A3 ns.length c3, .bool skip, .bool gone, .string inb] := H.out.blk 1 rfl
             clear hR9 hG9 hx)
          | (with_reducible show Calls _ _ _ (World.alloc wz _) _
             go_at_call 30
             refine (l6Draw_any u0 RA rb rc g q AR rs cR A3 ns c3 _ (H.out.kept (kFF wz (.cells #[.string ⟨#[]⟩, .string ⟨#[]⟩] 31))).rd (by omega) HRF.out.1 HRF.out.2 (HRS.out.below (kFF _ _)) (fun b o e => ⟨(HNE.out b o e).1, Nat.lt_of_lt_of_le (HNE.out b o e).2 (kFF _ _).size⟩) ((H.out.kept (kFF wz (.cells #[.string ⟨#[]⟩, .string ⟨#[]⟩] 31))).get 2 rfl)).mono ?_
             rintro e v1 ⟨x, q1, rfl, hx, hq1, hR9, hG9⟩
             obtain ⟨sg, bd⟩ := x
             have HLS := Lib.hid hx
             have HBY := Lib.hid ((Blk.new wz 31 #[.string ⟨#[]⟩, .string ⟨#[]⟩]).grown hG9 (by simp; omega))
             have hy0 : v1.cell? ⟨wz.heap.size, 0, none⟩ = some (.string ⟨#[]⟩) := HBY.out.cell 0
             have hy1 : v1.cell? ⟨wz.heap.size, 1, none⟩ = some (.string ⟨#[]⟩) := HBY.out.cell 1
             have hyf := fun j => HBY.out.frozen j
             have hyl := HBY.out.lt
             have hvS : wr.heap.size ≤ v1.heap.size := Nat.le_trans hzS (Nat.le_trans (kFF wz _).size hG9.size)
             replace H := Lib.hid ((H.out.kept (kFF wz (.cells #[.string ⟨#[]⟩, .string ⟨#[]⟩] 31))).draw hR9 hG9)
             have hc0 : Blk v1 (w.heap.size) 36 #[.int .i64 now, .slice A l.length c] := H.out.blk 0 rfl
             have hc1 : Blk v1 (w.heap.size + 1) 44 #[.bool on, .bool bad, .int .i64 t, .slice A2 ws.length c2, .slice A3 ns.length c3, .bool skip, .bool gone, .string inb] := H.out.blk 1 rfl
             clear hR9 hG9 hx))
      all_goals
        try go_wp2_with fail
        go_meet
        first
        | (refine ⟨v1.heap.size, sg, bd, q1, rfl, HLS, hq1, by omega, by rw [World.size_alloc]; omega, Lib.hid (fun j hj => by have := HLT.out j hj; omega), ?_⟩; exact Lib.hid (H.out.alloc 31 #[.string sg, .string bd]))
        | (refine ⟨wr.heap.size, sg, bd, q1, rfl, HLS, hq1, by omega, by simp only [World.size_setCell]; omega, Lib.hid (fun j hj => by have := HLT.out j hj; omega), ?_⟩; exact Lib.hid (SD.letBox H.out HBX.out (by omega) (by intro x hx; simp at hx; rcases hx with rfl | rfl <;> simp <;> omega) (fun j hj => by have := HLT.out j hj; omega) _ _))
        | (refine ⟨wz.heap.size, sg, bd, q1, rfl, HLS, hq1, by omega, by simp only [World.size_setCell]; omega, Lib.hid (fun j hj => by have := HLT.out j hj; omega), ?_⟩; exact Lib.hid (SD.letBox H.out HBY.out (by omega) (by intro x hx; simp at hx; rcases hx with rfl | rfl <;> simp <;> omega) (fun j hj => by have := HLT.out j hj; omega) _ _))
    case rest =>
      obtain ⟨g11, sg, bd, q1, rfl, HLS, hq1, hg11, hwc, HNG, HQ⟩ := hcut
      clear H HLT
      have H := Lib.hid HQ.out
      clear HQ
      have H : Hid (SD u0 RA rb rc g q1 w [(w.heap.size, 36, #[.int .i64 now, .slice A l.length c]), (w.heap.size + 1, 44, #[.bool on, .bool bad, .int .i64 t, .slice A2 ws.length c2, .slice A3 ns.length c3, .bool skip, .bool gone, .string inb]), (g11, 31, #[.string sg, .string bd])] [fun W => VK W now A l, fun W => WK W A2 ws, fun W => NK W A3 ns, fun W => OwnL W v0.heap.size (.slice AO LO.length cO) LO] wc) := Lib.hid H.out
      obtain ⟨i0, hi0, hz0, hz1, hz2⟩ := info_parts infoLet
      have HI := Lib.hid (⟨hi0, hz0, hz1, hz2⟩ : _ ∧ _ ∧ _ ∧ _)
      clear hi0 hz0 hz1 hz2
      have hLO : LO.length ≤ 20 := by have := HLO.out.1; omega
      have hownA := (H.out.get 3 rfl).alloc (.cells #[.string sg, .string bd] 31)
      have hnewA := new_cells wc [.string sg, .string bd] 31
      have H3 := Lib.hid (SD.only (H.out.kept (kFF wc (.cells #[.string sg, .string bd] 31))) [fun W => VK W now A l, fun W => WK W A2 ws, fun W => NK W A3 ns] (List.forall_mem_cons.2 ⟨⟨VK.c, (H.out.kept (kFF wc (.cells #[.string sg, .string bd] 31))).get 0 rfl⟩, List.forall_mem_cons.2 ⟨⟨WK.c, (H.out.kept (kFF wc (.cells #[.string sg, .string bd] 31))).get 1 rfl⟩, List.forall_mem_cons.2 ⟨⟨NK.c, (H.out.kept (kFF wc (.cells #[.string sg, .string bd] 31))).get 2 rfl⟩, fun P hP => absurd hP (by simp)⟩⟩⟩))
      have HNB : Hid (∀ b ∈ ([(w.heap.size, 36, #[.int .i64 now, .slice A l.length c]), (w.heap.size + 1, 44, #[.bool on, .bool bad, .int .i64 t, .slice A2 ws.length c2, .slice A3 ns.length c3, .bool skip, .bool gone, .string inb]), (g11, 31, #[.string sg, .string bd])] : List (Nat × TypeId × Array Value)), ∀ j, (Value.slice AO LO.length cO).ownBlock = some j → b.1 ≠ j) := Lib.hid (by
        intro b hb j hj
        have h8 := own_ge (H.out.get 3 rfl) hj
        have h9 := HNG.out j hj
        simp at hb
        rcases hb with rfl | rfl | rfl <;> simp <;> omega)
      obtain ⟨x2_0, x2_1⟩ := Blk.q2 (H.out.blk 2 rfl)
      clear H
      skip
      go_upto_region 7 with (at_builtin; refine wpList_append_own _ rfl (.tmp 26) (.tmp 28) 23 rfl v0.heap.size 31 i0 _ 2 32 Tryz.underlying23 HI.out.1 HI.out.2.1 HI.out.2.2.1 HI.out.2.2.2 rfl (by decide) (.slice AO LO.length cO) LO.length (LO.flatMap encLet) rfl hownA ⟨wc.heap.size, 0, none⟩ 1 1 [.string sg, .string bd] rfl rfl hnewA (by simp [Value.oneCell']) (by unfold maxLen; omega) (by omega) (by simp; omega) ?_; intro v8 w8 ho8 hg8 _; have hn8 := SD.grownX H3.out hownA hg8 HNB.out (by omega) (List.forall_mem_cons.2 ⟨VK.l, List.forall_mem_cons.2 ⟨WK.l, List.forall_mem_cons.2 ⟨NK.l, fun P hP => absurd hP (by simp)⟩⟩⟩); obtain ⟨M, hM, hAM, hoM⟩ : ∃ M : List Let, M.length = k + 1 ∧ AllL M ∧ OwnL w8 v0.heap.size v8 M := ⟨LO ++ [(sg, bd)], by have := HLO.out.1; simp; omega, HLO.out.2.snoc HLS.out, ownL_app ho8⟩; obtain ⟨A8, c8, rfl, _, _, _⟩ := hoM.sl; have H := Lib.hid (SD.add hn8 (fun W => OwnL W v0.heap.size (.slice A8 M.length c8) M) OwnL.c hoM); have HLM := Lib.hid (⟨hM, hAM⟩ : _ ∧ _); have hw8 : v0.heap.size ≤ w8.heap.size := Nat.le_trans hwc (Nat.le_trans (kFF wc (.cells #[.string sg, .string bd] 31)).size hg8.size); have x8_0 : w8.cell? ⟨g11, 0, none⟩ = some (.string sg) := (hn8.blk 2 rfl).cell 0; have x8_1 : w8.cell? ⟨g11, 1, none⟩ = some (.string bd) := (hn8.blk 2 rfl).cell 1; clear hn8 ho8 hg8 hM hAM hoM hownA hnewA)
      clear x2_0 x2_1 H3 HNB
      have H : Hid (SD u0 RA rb rc g q1 w [(w.heap.size, 36, #[.int .i64 now, .slice A l.length c]), (w.heap.size + 1, 44, #[.bool on, .bool bad, .int .i64 t, .slice A2 ws.length c2, .slice A3 ns.length c3, .bool skip, .bool gone, .string inb]), (g11, 31, #[.string sg, .string bd])] [fun W => VK W now A l, fun W => WK W A2 ws, fun W => NK W A3 ns, fun W => OwnL W v0.heap.size (.slice A8 M.length c8) M] w8) := Lib.hid H.out
      go_wp2_with fail
      refine (specOk_any (sg, bd) _ (Nat.le_trans HLS.out.1 (by decide)) (Nat.le_trans HLS.out.2 (by decide))).mono ?_
      rintro e w9 ⟨rfl, hb9⟩
      have hw9 : v0.heap.size ≤ w9.heap.size := Nat.le_trans hw8 hb9.size
      replace H := Lib.hid (H.out.kept hb9)
      clear x8_0 x8_1 hb9
      generalize letB (sg, bd) = bb at *
      cases bb
      case false =>
        have HD := Lib.hid (SD.drop (L := [(w.heap.size, 36, #[.int .i64 now, .slice A l.length c]), (w.heap.size + 1, 44, #[.bool on, .bool bad, .int .i64 t, .slice A2 ws.length c2, .slice A3 ns.length c3, .bool skip, .bool gone, .string inb])]) H.out)
        clear H
        go_wp2_with fail
        go_roundw
        case rel => first | exact ⟨k + 1, q1, A8, M, c8, now, A, l, c, on, bad, t, A2, ws, c2, A3, ns, c3, skip, gone, inb, by omega, by omega, by go_num, rfl, HLM, hw9, HD⟩ | ((repeat apply Exists.intro); exact ⟨⟨k + 1, q1, A8, M, c8, now, A, l, c, on, bad, t, A2, ws, c2, A3, ns, c3, skip, gone, inb, by omega, by omega, by go_num, rfl, HLM, hw9, HD⟩, rfl⟩)
        case measure => simp [intOf]; omega
      case true =>
        go_wp2_with fail
        replace H := Lib.hid (H.out.kept (kDB w9))
        have hw9d : v0.heap.size ≤ w9.drew.heap.size := hw9
        have hB0_0 : ∀ W : World, Blk W (w.heap.size) 36 #[.int .i64 now, .slice A l.length c] → W.cell? ⟨w.heap.size, 0, none⟩ = some (.int .i64 now) := fun W h => h.cell 0
        have hB0_1 : ∀ W : World, Blk W (w.heap.size) 36 #[.int .i64 now, .slice A l.length c] → W.cell? ⟨w.heap.size, 1, none⟩ = some (.slice A l.length c) := fun W h => h.cell 1
        have hB1_0 : ∀ W : World, Blk W (w.heap.size + 1) 44 #[.bool on, .bool bad, .int .i64 t, .slice A2 ws.length c2, .slice A3 ns.length c3, .bool skip, .bool gone, .string inb] → W.cell? ⟨w.heap.size + 1, 0, none⟩ = some (.bool on) := fun W h => h.cell 0
        have hB1_1 : ∀ W : World, Blk W (w.heap.size + 1) 44 #[.bool on, .bool bad, .int .i64 t, .slice A2 ws.length c2, .slice A3 ns.length c3, .bool skip, .bool gone, .string inb] → W.cell? ⟨w.heap.size + 1, 1, none⟩ = some (.bool bad) := fun W h => h.cell 1
        have hB1_2 : ∀ W : World, Blk W (w.heap.size + 1) 44 #[.bool on, .bool bad, .int .i64 t, .slice A2 ws.length c2, .slice A3 ns.length c3, .bool skip, .bool gone, .string inb] → W.cell? ⟨w.heap.size + 1, 2, none⟩ = some (.int .i64 t) := fun W h => h.cell 2
        have hB1_3 : ∀ W : World, Blk W (w.heap.size + 1) 44 #[.bool on, .bool bad, .int .i64 t, .slice A2 ws.length c2, .slice A3 ns.length c3, .bool skip, .bool gone, .string inb] → W.cell? ⟨w.heap.size + 1, 3, none⟩ = some (.slice A2 ws.length c2) := fun W h => h.cell 3
        have hB1_4 : ∀ W : World, Blk W (w.heap.size + 1) 44 #[.bool on, .bool bad, .int .i64 t, .slice A2 ws.length c2, .slice A3 ns.length c3, .bool skip, .bool gone, .string inb] → W.cell? ⟨w.heap.size + 1, 4, none⟩ = some (.slice A3 ns.length c3) := fun W h => h.cell 4
        have hB1_5 : ∀ W : World, Blk W (w.heap.size + 1) 44 #[.bool on, .bool bad, .int .i64 t, .slice A2 ws.length c2, .slice A3 ns.length c3, .bool skip, .bool gone, .string inb] → W.cell? ⟨w.heap.size + 1, 5, none⟩ = some (.bool skip) := fun W h => h.cell 5
        have hB1_6 : ∀ W : World, Blk W (w.heap.size + 1) 44 #[.bool on, .bool bad, .int .i64 t, .slice A2 ws.length c2, .slice A3 ns.length c3, .bool skip, .bool gone, .string inb] → W.cell? ⟨w.heap.size + 1, 6, none⟩ = some (.bool gone) := fun W h => h.cell 6
        have hB1_7 : ∀ W : World, Blk W (w.heap.size + 1) 44 #[.bool on, .bool bad, .int .i64 t, .slice A2 ws.length c2, .slice A3 ns.length c3, .bool skip, .bool gone, .string inb] → W.cell? ⟨w.heap.size + 1, 7, none⟩ = some (.string inb) := fun W h => h.cell 7
        have hB2_0 : ∀ W : World, Blk W (g11) 31 #[.string sg, .string bd] → W.cell? ⟨g11, 0, none⟩ = some (.string sg) := fun W h => h.cell 0
        have hB2_1 : ∀ W : World, Blk W (g11) 31 #[.string sg, .string bd] → W.cell? ⟨g11, 1, none⟩ = some (.string bd) := fun W h => h.cell 1
        have hc0 : Blk w9.drew (w.heap.size) 36 #[.int .i64 now, .slice A l.length c] := H.out.blk 0 rfl
        have hc1 : Blk w9.drew (w.heap.size + 1) 44 #[.bool on, .bool bad, .int .i64 t, .slice A2 ws.length c2, .slice A3 ns.length c3, .bool skip, .bool gone, .string inb] := H.out.blk 1 rfl
        have hc2 : Blk w9.drew (g11) 31 #[.string sg, .string bd] := H.out.blk 2 rfl
        refine wp_region_M (fun W => Blk W (w.heap.size) 36 #[.int .i64 now, .slice A l.length c] ∧ Blk W (w.heap.size + 1) 44 #[.bool on, .bool bad, .int .i64 t, .slice A2 ws.length c2, .slice A3 ns.length c3, .bool skip, .bool gone, .string inb] ∧ Blk W (g11) 31 #[.string sg, .string bd]) 10 (by kernel_rfl) ((by (try dsimp only); (refine ⟨?_, ?_, ?_⟩ <;> (repeat (first | (with_reducible assumption) | (with_reducible refine Blk.drew ?_) | (with_reducible refine Blk.alloc ?_ _) | (with_reducible refine Blk.far ?_ (by simp <;> omega) _)))))) (fun hHeld => ?_)
        refine wpAnyM_take (i := 0) (v := ?_) rfl (by kernel_rfl) (by kernel_rfl) (by kernel_rfl) (by kernel_rfl) (by decide) (fun _ _ _ h => h) (Or.inl ⟨by rfl, ?_⟩) (by assumption) ?_
        rotate_left 1
        · (intro w hSw; (try dsimp only at hSw); go_simp); all_goals (with_reducible rfl)
        try simp only [Act.put, List.getElem_toArray, List.getElem_cons_zero, List.setIfInBounds_toArray, List.set_cons_zero, List.set_cons_succ]
        refine wpAnyM_take (i := 2) (v := ?_) rfl (by kernel_rfl) (by kernel_rfl) (by kernel_rfl) (by kernel_rfl) (by decide) (fun _ _ _ h => h) (Or.inl ⟨by rfl, ?_⟩) (by assumption) ?_
        rotate_left 1
        · (intro w hSw; (try dsimp only at hSw); go_simp); all_goals (with_reducible rfl)
        try simp only [Act.put, List.getElem_toArray, List.getElem_cons_zero, List.getElem_cons_succ, List.setIfInBounds_toArray, List.set_cons_zero, List.set_cons_succ]
        refine wpAnyM_take (i := 4) (v := ?_) rfl (by kernel_rfl) (by kernel_rfl) (by kernel_rfl) (by kernel_rfl) (by decide) (fun _ _ _ h => h) (Or.inl ⟨by rfl, ?_⟩) (by assumption) ?_
        rotate_left 1
        · (intro w hSw; (try dsimp only at hSw); go_simp); all_goals (with_reducible rfl)
        try simp only [Act.put, List.getElem_toArray, List.getElem_cons_zero, List.getElem_cons_succ, List.setIfInBounds_toArray, List.set_cons_zero, List.set_cons_succ]
        refine wpAnyM_step (i := 1) (by kernel_rfl) rfl (by decide) (fun K hK => ?_)
        go_simp
        refine (l2Copy_any A l c now _ (by omega) (VK.sl (H.out.get 0 rfl))).mono ?_
        rintro e wa ⟨v, rfl, hov, hba⟩
        obtain ⟨A7, c7, rfl, _, _, _⟩ := hov.sl
        have HVV := Lib.hid (VK.of hov (H.out.get 0 rfl).2.1 (H.out.get 0 rfl).2.2.1 (H.out.get 0 rfl).2.2.2.1 (H.out.get 0 rfl).2.2.2.2)
        replace H := Lib.hid (H.out.kept hba)
        have hc0 : Blk wa (w.heap.size) 36 #[.int .i64 now, .slice A l.length c] := H.out.blk 0 rfl
        have hc1 : Blk wa (w.heap.size + 1) 44 #[.bool on, .bool bad, .int .i64 t, .slice A2 ws.length c2, .slice A3 ns.length c3, .bool skip, .bool gone, .string inb] := H.out.blk 1 rfl
        have hc2 : Blk wa (g11) 31 #[.string sg, .string bd] := H.out.blk 2 rfl
        have hwa : v0.heap.size ≤ wa.heap.size := Nat.le_trans hw9d hba.size
        clear hov hba
        go_wp2_with fail
        refine hK.out _ _ ?_ (fun hHeld => ?_)
        · (try dsimp only); (refine ⟨?_, ?_, ?_⟩ <;> (repeat (first | (with_reducible assumption) | (with_reducible refine Blk.drew ?_) | (with_reducible refine Blk.alloc ?_ _) | (with_reducible refine Blk.far ?_ (by simp <;> omega) _))))
        clear hK K
        try simp only [Act.put, List.getElem_toArray, List.getElem_cons_zero, List.getElem_cons_succ, List.setIfInBounds_toArray, List.set_cons_zero, List.set_cons_succ]
        refine wpAnyM_step (i := 3) (by kernel_rfl) rfl (by decide) (fun K hK => ?_)
        go_simp
        refine (l6Copy_any on bad t A2 ws c2 A3 ns c3 skip gone inb _ (H.out.get 1 rfl) (H.out.get 2 rfl)).mono ?_
        rintro e wb ⟨A6, c6, A63, c63, rfl, hW6, hN6, hbb⟩
        replace HVV := Lib.hid (VK.c _ _ (Kp.below hbb) HVV.out)
        have HWW := Lib.hid hW6
        have HNN := Lib.hid hN6
        replace H := Lib.hid (H.out.kept hbb)
        have hc0 : Blk wb (w.heap.size) 36 #[.int .i64 now, .slice A l.length c] := H.out.blk 0 rfl
        have hc1 : Blk wb (w.heap.size + 1) 44 #[.bool on, .bool bad, .int .i64 t, .slice A2 ws.length c2, .slice A3 ns.length c3, .bool skip, .bool gone, .string inb] := H.out.blk 1 rfl
        have hc2 : Blk wb (g11) 31 #[.string sg, .string bd] := H.out.blk 2 rfl
        have hwb : v0.heap.size ≤ wb.heap.size := Nat.le_trans hwa hbb.size
        clear hW6 hN6 hbb
        go_wp2_with fail
        refine hK.out _ _ ?_ (fun hHeld => ?_)
        · (try dsimp only); (refine ⟨?_, ?_, ?_⟩ <;> (repeat (first | (with_reducible assumption) | (with_reducible refine Blk.drew ?_) | (with_reducible refine Blk.alloc ?_ _) | (with_reducible refine Blk.far ?_ (by simp <;> omega) _))))
        clear hK K
        try simp only [Act.put, List.getElem_toArray, List.getElem_cons_zero, List.getElem_cons_succ, List.setIfInBounds_toArray, List.set_cons_zero, List.set_cons_succ]
        refine wpAnyM_step (i := 5) (by kernel_rfl) rfl (by decide) (fun K hK => ?_)
        go_simp
        refine (l6Letter_any A7 l c7 now on bad t A6 ws c6 A63 ns c63 skip gone inb (sg, bd) _ HVV.out HWW.out HNN.out (Nat.le_trans HLS.out.2 (by decide))).mono ?_
        rintro e wz ⟨nowu, Au, lu, cu, onu, badu, tu, A2u, wsu, c2u, A3u, nsu, c3u, skipu, goneu, inbu, A4, L, c4, rfl, hV2, hW2, hN2, hL2, hbz, _⟩
        replace H := Lib.hid (SD.add (SD.add (SD.add (H.out.kept hbz) (fun W => VK W nowu Au lu) VK.c hV2) (fun W => WK W A2u wsu) WK.c hW2) (fun W => NK W A3u nsu) NK.c hN2)
        have hwz : v0.heap.size ≤ wz.heap.size := Nat.le_trans hwb hbz.size
        have hc0 : Blk wz (w.heap.size) 36 #[.int .i64 now, .slice A l.length c] := H.out.blk 0 rfl
        have hc1 : Blk wz (w.heap.size + 1) 44 #[.bool on, .bool bad, .int .i64 t, .slice A2 ws.length c2, .slice A3 ns.length c3, .bool skip, .bool gone, .string inb] := H.out.blk 1 rfl
        have hc2 : Blk wz (g11) 31 #[.string sg, .string bd] := H.out.blk 2 rfl
        have hkk : wz.cell? ⟨w.heap.size, 0, none⟩ = some (.int .i64 now) ∧ wz.cell? ⟨w.heap.size, 1, none⟩ = some (.slice A l.length c) ∧ wz.cell? ⟨w.heap.size + 1, 0, none⟩ = some (.bool on) ∧ wz.cell? ⟨w.heap.size + 1, 1, none⟩ = some (.bool bad) ∧ wz.cell? ⟨w.heap.size + 1, 2, none⟩ = some (.int .i64 t) ∧ wz.cell? ⟨w.heap.size + 1, 3, none⟩ = some (.slice A2 ws.length c2) ∧ wz.cell? ⟨w.heap.size + 1, 4, none⟩ = some (.slice A3 ns.length c3) ∧ wz.cell? ⟨w.heap.size + 1, 5, none⟩ = some (.bool skip) ∧ wz.cell? ⟨w.heap.size + 1, 6, none⟩ = some (.bool gone) ∧ wz.cell? ⟨w.heap.size + 1, 7, none⟩ = some (.string inb) := ⟨(H.out.blk 0 rfl).cell 0, (H.out.blk 0 rfl).cell 1, (H.out.blk 1 rfl).cell 0, (H.out.blk 1 rfl).cell 1, (H.out.blk 1 rfl).cell 2, (H.out.blk 1 rfl).cell 3, (H.out.blk 1 rfl).cell 4, (H.out.blk 1 rfl).cell 5, (H.out.blk 1 rfl).cell 6, (H.out.blk 1 rfl).cell 7⟩
        have hf0 := fun j => (H.out.blk 0 rfl).frozen j
        have hf1 := fun j => (H.out.blk 1 rfl).frozen j
        have hl0 := (H.out.blk 0 rfl).lt
        have hl1 := (H.out.blk 1 rfl).lt
        clear hbz hV2 hW2 hN2 hL2
        go_wp2_with fail
        refine hK.out _ _ ?_ (fun hHeld => ?_)
        · (try dsimp only); (refine ⟨?_, ?_, ?_⟩ <;> (repeat (first | (with_reducible assumption) | (with_reducible refine Blk.drew ?_) | (with_reducible refine Blk.alloc ?_ _) | (with_reducible refine Blk.far ?_ (by simp <;> omega) _))))
        clear hK K
        try simp only [Act.put, List.getElem_toArray, List.getElem_cons_zero, List.getElem_cons_succ, List.setIfInBounds_toArray, List.set_cons_zero, List.set_cons_succ]
        refine wpAnyM_takeP (i := 6) (v := ?_) rfl (by kernel_rfl) (by kernel_rfl) (by kernel_rfl) (by decide) (fun _ _ _ h => h) (Or.inl ⟨by rfl, ?_⟩) (by assumption) ?_
        rotate_left 1
        · (intro w; go_simp); all_goals (with_reducible rfl)
        try simp only [Act.put, List.getElem_toArray, List.getElem_cons_zero, List.getElem_cons_succ, List.setIfInBounds_toArray, List.set_cons_zero, List.set_cons_succ]
        refine wpAnyM_takeP (i := 7) (v := ?_) rfl (by kernel_rfl) (by kernel_rfl) (by kernel_rfl) (by decide) (fun _ _ _ h => h) (Or.inl ⟨by rfl, ?_⟩) (by assumption) ?_
        rotate_left 1
        · (intro w; go_simp); all_goals (with_reducible rfl)
        try simp only [Act.put, List.getElem_toArray, List.getElem_cons_zero, List.getElem_cons_succ, List.setIfInBounds_toArray, List.set_cons_zero, List.set_cons_succ]
        refine wpAnyM_takeP (i := 8) (v := ?_) rfl (by kernel_rfl) (by kernel_rfl) (by kernel_rfl) (by decide) (fun _ _ _ h => h) (Or.inl ⟨by rfl, ?_⟩) (by assumption) ?_
        rotate_left 1
        · (intro w; go_simp); all_goals (with_reducible rfl)
        try simp only [Act.put, List.getElem_toArray, List.getElem_cons_zero, List.getElem_cons_succ, List.setIfInBounds_toArray, List.set_cons_zero, List.set_cons_succ]
        refine wpAnyM_takeP (i := 9) (v := ?_) rfl (by kernel_rfl) (by kernel_rfl) (by kernel_rfl) (by decide) (fun _ _ _ h => h) (Or.inl ⟨by rfl, ?_⟩) (by assumption) ?_
        rotate_left 1
        · (intro w; go_simp); all_goals (with_reducible rfl)
        try simp only [Act.put, List.getElem_toArray, List.getElem_cons_zero, List.getElem_cons_succ, List.setIfInBounds_toArray, List.set_cons_zero, List.set_cons_succ]
        refine wpAnyM_last (by kernel_rfl) rfl (fun K hK => ?_)
        go_simp
        refine hK.out _ _ ?_
        clear hK K
        try simp only [Act.put, List.getElem_toArray, List.getElem_cons_zero, List.getElem_cons_succ, List.setIfInBounds_toArray, List.set_cons_zero, List.set_cons_succ]
        refine wpAny_step (i := 11) (by kernel_rfl) rfl (fun K hK => ?_)
        go_simp
        refine hK.out _ _ ?_
        clear hK K
        try simp only [Act.put, List.getElem_toArray, List.getElem_cons_zero, List.getElem_cons_succ, List.setIfInBounds_toArray, List.set_cons_zero, List.set_cons_succ]
        refine wpAny_done (by kernel_rfl) ?_ _
        have HZ := Lib.hid (SD.put8 (SD.put2 (H.out) 0 (.int .i64 nowu) (.slice Au lu.length cu) rfl (by decide)) 1 (.bool onu) (.bool badu) (.int .i64 tu) (.slice A2u wsu.length c2u) (.slice A3u nsu.length c3u) (.bool skipu) (.bool goneu) (.string inbu) rfl (by decide))
        have HZ2 := Lib.hid (SD.drop (L := [(w.heap.size, 36, #[.int .i64 nowu, .slice Au lu.length cu]), (w.heap.size + 1, 44, #[.bool onu, .bool badu, .int .i64 tu, .slice A2u wsu.length c2u, .slice A3u nsu.length c3u, .bool skipu, .bool goneu, .string inbu])]) HZ.out)
        have HD : Hid (SD u0 RA rb rc g q1 w [(w.heap.size, 36, #[.int .i64 nowu, .slice Au lu.length cu]), (w.heap.size + 1, 44, #[.bool onu, .bool badu, .int .i64 tu, .slice A2u wsu.length c2u, .slice A3u nsu.length c3u, .bool skipu, .bool goneu, .string inbu])] [fun W => VK W nowu Au lu, fun W => WK W A2u wsu, fun W => NK W A3u nsu, fun W => OwnL W v0.heap.size (.slice A8 M.length c8) M] ((((((((((wz.setCell ⟨w.heap.size, 0, none⟩ (.int .i64 nowu)).setCell ⟨w.heap.size, 1, none⟩ (.slice Au lu.length cu)).setCell ⟨w.heap.size + 1, 0, none⟩ (.bool onu)).setCell ⟨w.heap.size + 1, 1, none⟩ (.bool badu)).setCell ⟨w.heap.size + 1, 2, none⟩ (.int .i64 tu)).setCell ⟨w.heap.size + 1, 3, none⟩ (.slice A2u wsu.length c2u)).setCell ⟨w.heap.size + 1, 4, none⟩ (.slice A3u nsu.length c3u)).setCell ⟨w.heap.size + 1, 5, none⟩ (.bool skipu)).setCell ⟨w.heap.size + 1, 6, none⟩ (.bool goneu)).setCell ⟨w.heap.size + 1, 7, none⟩ (.string inbu))) := Lib.hid (SD.only HZ2.out _ (List.forall_mem_cons.2 ⟨⟨VK.c, HZ.out.get 4 rfl⟩, List.forall_mem_cons.2 ⟨⟨WK.c, HZ.out.get 5 rfl⟩, List.forall_mem_cons.2 ⟨⟨NK.c, HZ.out.get 6 rfl⟩, List.forall_mem_cons.2 ⟨⟨OwnL.c, HZ.out.get 3 rfl⟩, fun P hP => absurd hP (by simp)⟩⟩⟩⟩))
        have hwz2 : v0.heap.size ≤ ((((((((((wz.setCell ⟨w.heap.size, 0, none⟩ (.int .i64 nowu)).setCell ⟨w.heap.size, 1, none⟩ (.slice Au lu.length cu)).setCell ⟨w.heap.size + 1, 0, none⟩ (.bool onu)).setCell ⟨w.heap.size + 1, 1, none⟩ (.bool badu)).setCell ⟨w.heap.size + 1, 2, none⟩ (.int .i64 tu)).setCell ⟨w.heap.size + 1, 3, none⟩ (.slice A2u wsu.length c2u)).setCell ⟨w.heap.size + 1, 4, none⟩ (.slice A3u nsu.length c3u)).setCell ⟨w.heap.size + 1, 5, none⟩ (.bool skipu)).setCell ⟨w.heap.size + 1, 6, none⟩ (.bool goneu)).setCell ⟨w.heap.size + 1, 7, none⟩ (.string inbu)).heap.size := by simp only [World.size_setCell]; exact hwz
        clear H HZ HZ2
        go_wp2_with fail
        go_roundw
        case rel => first | exact ⟨k + 1, q1, A8, M, c8, nowu, Au, lu, cu, onu, badu, tu, A2u, wsu, c2u, A3u, nsu, c3u, skipu, goneu, inbu, by omega, by omega, by go_num, rfl, HLM, hwz2, HD⟩ | ((repeat apply Exists.intro); exact ⟨⟨k + 1, q1, A8, M, c8, nowu, Au, lu, cu, onu, badu, tu, A2u, wsu, c2u, A3u, nsu, c3u, skipu, goneu, inbu, by omega, by omega, by go_num, rfl, HLM, hwz2, HD⟩, rfl⟩)
        case measure => simp [intOf]; omega
end Go.Proofs.YtfmhhckkpenldaaGreatDoor
