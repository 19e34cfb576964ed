import Derived.Deep.RegionHeld3
import Derived.Test.YtpjkcmmmpgncmaaM22
import Derived.Test.YtpjkcmmmpgncmaaM25
import Derived.Test.YtpjkcmmmpgncmaaM05
import Derived.Test.YtpjkcmmmpgncmaaL6K
/- A walk through a region that draws its order: what the loads read is held up to one operation (a store into what was read), behind which nothing is loaded any more. -/
namespace Go.Proofs.Ytpjkcmmmpgncmaa
section
variable {P : Program} {ops : Array Oper} {Q : Exit → Act → World → Prop} {md : Region.Mode} {S : World → Prop} {m : Nat}
/-- S holds behind every operation up to number m -/
def wpAnyM (P : Program) (md : Region.Mode) (ops : Array Oper) (Q : Exit → Act → World → Prop) (S : World → Prop) (m : Nat) : Nat → Array Bool → Act → World → Prop
  | 0, listed, a, w => Region.ready md ops listed = [] ∧ Q .normal a w
  | fuel + 1, listed, a, w =>
    (Region.ready md ops listed = [] → Q .normal a w) ∧
    ∀ i ∈ Region.ready md ops listed, wpOp P ops Q i (fun a' w' => (i = m → wpAny P md ops Q fuel (listed.setIfInBounds i true) a' w') ∧ (i ≠ m → S w' ∧ wpAnyM P md ops Q S m fuel (listed.setIfInBounds i true) a' w')) a w
theorem wpAny_of_M : ∀ (fuel : Nat) (listed : Array Bool) (a : Act) (w : World), wpAnyM P md ops Q S m fuel listed a w → wpAny P md ops Q fuel listed a w
  | 0, _, _, _, h => h
  | fuel + 1, _, _, _, h => ⟨h.1, fun i hi => wpOp_mono (fun a' w' h' => by
      by_cases him : i = m
      · exact h'.1 him
      · exact wpAny_of_M fuel _ a' w' (h'.2 him).2) (h.2 i hi)⟩
theorem wpAnyM_first {i : Nat} {oi : Oper} {v : Value} (hi : ops[i]? = some oi) (hsel : ∀ (j : Nat) (o : Oper) cs b, ops[j]? = some o → o.op ≠ .select cs b)
    (hQ : ∀ c a w, Q (.panic c) (a.put oi.dst v) w → Q (.panic c) a w) (him : i ≠ m) (hm : ∀ o, ops[m]? = some o → ∃ e ∈ o.after, Region.binds md e = true ∧ e.on = i) :
    ∀ (fuel : Nat) (listed : Array Bool) (a : Act) (w : World),
      (∀ j oj, ops[j]? = some oj → j ≠ i → listed.getD j true = false → (∀ e ∈ oj.after, Region.binds md e = true → e.on ≠ i) → oi.apart ops oj = true) →
      i ∈ Region.ready md ops listed → YieldsIf P ops S oi v a → S w →
      wpAnyM P md ops Q S m fuel (listed.setIfInBounds i true) (a.put oi.dst v) w → wpAnyM P md ops Q S m (fuel + 1) listed a w := by
  intro fuel
  induction fuel with
  | zero =>
    intro listed a w _ hr hy hS H
    refine ⟨fun h => (by rw [h] at hr; cases hr), fun j hj => ?_⟩
    by_cases hji : j = i
    · subst hji; exact hy.wpOp hi hS ⟨fun h => absurd h him, fun _ => ⟨hS, H⟩⟩
    · have := ready_mono hj hji
      rw [H.1] at this
      cases this
  | succ fuel ih =>
    intro listed a w hfree hr hy hS H
    refine ⟨fun h => (by rw [h] at hr; cases hr), fun j hj => ?_⟩
    by_cases hji : j = i
    · subst hji; exact hy.wpOp hi hS ⟨fun h => absurd h him, fun _ => ⟨hS, H⟩⟩
    · have h1 := H.2 j (ready_mono hj hji)
      obtain ⟨hjun, oj, hoj, hall⟩ := mem_ready.1 hj
      have hnot : ∀ e ∈ oj.after, Region.binds md e = true → e.on ≠ i := fun e he hb heq => by
        have h1 := hall e he hb
        have h0 := (mem_ready.1 hr).1
        rw [heq] at h1
        rcases Nat.lt_or_ge i listed.size with h' | h'
        · simp [h'] at h0 h1; rw [h0] at h1; cases h1
        · simp [Array.getElem?_eq_none h'] at h1
      have hjm : j ≠ m := fun e => by
        subst e
        obtain ⟨e, he, hb, ho⟩ := hm oj hoj
        exact hnot e he hb ho
      have h2 := wpOp_putIf hoj (hfree j oj hoj hji hjun hnot) (fun cs b => hsel i oi cs b hi) (fun cs b => hsel j oj cs b hoj) hQ hy h1
      have hfree' : ∀ k ok, ops[k]? = some ok → k ≠ i → (listed.setIfInBounds j true).getD k true = false →
          (∀ e ∈ ok.after, Region.binds md e = true → e.on ≠ i) → oi.apart ops ok = true := fun k ok hk hki hun hno => by
        refine hfree k ok hk hki ?_ hno
        by_cases hjk : j = k
        · subst hjk; exact hjun
        · rw [getD_set_ne true hjk] at hun; exact hun
      refine wpOp_mono (fun a' w' h3 => ⟨fun e => absurd e hjm, fun _ => ?_⟩) h2
      obtain ⟨hS', hW'⟩ := h3.2.2 hjm
      refine ⟨hS', ih (listed.setIfInBounds j true) a' w' hfree' (ready_mono hr (Ne.symm hji)) h3.1 hS' ?_⟩
      rw [Array.setIfInBounds_comm _ _ hji]
      exact hW'
def waitsOn (md : Region.Mode) (ops : Array Oper) (m i : Nat) : Bool := (ops[m]?).all (fun o => o.after.any (fun e => Region.binds md e && e.on == i))
theorem waitsOn_spec {i : Nat} (h : waitsOn md ops m i = true) : ∀ o, ops[m]? = some o → ∃ e ∈ o.after, Region.binds md e = true ∧ e.on = i := by
  intro o ho
  unfold waitsOn at h
  rw [ho] at h
  simp at h
  obtain ⟨x, hx, h1, h2⟩ := h
  first
    | exact ⟨_, Array.getElem_mem (by assumption), h1, h2⟩
    | exact ⟨x, hx, h1, h2⟩
theorem wpAnyM_take {i : Nat} {oi : Oper} {v : Value} {fuel : Nat} {listed : Array Bool} {a : Act} {w : World} (hi : ops[i]? = some oi)
    (hs : Region.noSelect ops = true) (hf : Region.free md ops listed i = true) (hr : (Region.ready md ops listed).contains i = true) (hw : waitsOn md ops m i = true) (him : i ≠ m)
    (hQ : ∀ c a w, Q (.panic c) (a.put oi.dst v) w → Q (.panic c) a w) (hy : YieldsIf P ops S oi v a) (hS : S w)
    (h : wpAnyM P md ops Q S m fuel (listed.setIfInBounds i true) (a.put oi.dst v) w) : wpAnyM P md ops Q S m (fuel + 1) listed a w :=
  wpAnyM_first hi (Region.noSelect_spec hs) hQ him (waitsOn_spec hw) fuel listed a w (Region.free_spec hi hf) (by simpa using hr) hy hS h
/-- what yields in whatever world is taken first, whether number m waits for it or not -/
theorem wpAnyM_firstP {i : Nat} {oi : Oper} {v : Value} (hi : ops[i]? = some oi) (hsel : ∀ (j : Nat) (o : Oper) cs b, ops[j]? = some o → o.op ≠ .select cs b)
    (hQ : ∀ c a w, Q (.panic c) (a.put oi.dst v) w → Q (.panic c) a w) (him : i ≠ m) :
    ∀ (fuel : Nat) (listed : Array Bool) (a : Act) (w : World),
      (∀ j oj, ops[j]? = some oj → j ≠ i → listed.getD j true = false → (∀ e ∈ oj.after, Region.binds md e = true → e.on ≠ i) → oi.apart ops oj = true) →
      i ∈ Region.ready md ops listed → Yields P ops oi v a → S w →
      wpAnyM P md ops Q S m fuel (listed.setIfInBounds i true) (a.put oi.dst v) w → wpAnyM P md ops Q S m (fuel + 1) listed a w := by
  intro fuel
  induction fuel with
  | zero =>
    intro listed a w _ hr hy hS H
    refine ⟨fun h => (by rw [h] at hr; cases hr), fun j hj => ?_⟩
    by_cases hji : j = i
    · subst hji; exact hy.wpOp hi ⟨fun h => absurd h him, fun _ => ⟨hS, H⟩⟩
    · have := ready_mono hj hji
      rw [H.1] at this
      cases this
  | succ fuel ih =>
    intro listed a w hfree hr hy hS H
    refine ⟨fun h => (by rw [h] at hr; cases hr), fun j hj => ?_⟩
    by_cases hji : j = i
    · subst hji; exact hy.wpOp hi ⟨fun h => absurd h him, fun _ => ⟨hS, H⟩⟩
    · have h1 := H.2 j (ready_mono hj hji)
      obtain ⟨hjun, oj, hoj, hall⟩ := mem_ready.1 hj
      have hnot : ∀ e ∈ oj.after, Region.binds md e = true → e.on ≠ i := fun e he hb heq => by
        have h1 := hall e he hb
        have h0 := (mem_ready.1 hr).1
        rw [heq] at h1
        rcases Nat.lt_or_ge i listed.size with h' | h'
        · simp [h'] at h0 h1; rw [h0] at h1; cases h1
        · simp [Array.getElem?_eq_none h'] at h1
      have h2 := wpOp_put hoj (hfree j oj hoj hji hjun hnot) (fun cs b => hsel i oi cs b hi) (fun cs b => hsel j oj cs b hoj) hQ hy h1
      have hfree' : ∀ k ok, ops[k]? = some ok → k ≠ i → (listed.setIfInBounds j true).getD k true = false →
          (∀ e ∈ ok.after, Region.binds md e = true → e.on ≠ i) → oi.apart ops ok = true := fun k ok hk hki hun hno => by
        refine hfree k ok hk hki ?_ hno
        by_cases hjk : j = k
        · subst hjk; exact hjun
        · rw [getD_set_ne true hjk] at hun; exact hun
      refine wpOp_mono (fun a' w' h3 => ⟨fun e => ?_, fun hjm => ?_⟩) h2
      · have hW' := h3.2.1 e
        rw [Array.setIfInBounds_comm _ _ (Ne.symm hji)] at hW'
        exact wpAny_first hi hsel hQ fuel (listed.setIfInBounds j true) a' w' hfree' (ready_mono hr (Ne.symm hji)) h3.1 hW'
      · obtain ⟨hS', hW'⟩ := h3.2.2 hjm
        refine ⟨hS', ih (listed.setIfInBounds j true) a' w' hfree' (ready_mono hr (Ne.symm hji)) h3.1 hS' ?_⟩
        rw [Array.setIfInBounds_comm _ _ hji]
        exact hW'
theorem wpAnyM_takeP {i : Nat} {oi : Oper} {v : Value} {fuel : Nat} {listed : Array Bool} {a : Act} {w : World} (hi : ops[i]? = some oi)
    (hs : Region.noSelect ops = true) (hf : Region.free md ops listed i = true) (hr : (Region.ready md ops listed).contains i = true) (him : i ≠ m)
    (hQ : ∀ c a w, Q (.panic c) (a.put oi.dst v) w → Q (.panic c) a w) (hy : Yields P ops oi v a) (hS : S w)
    (h : wpAnyM P md ops Q S m fuel (listed.setIfInBounds i true) (a.put oi.dst v) w) : wpAnyM P md ops Q S m (fuel + 1) listed a w :=
  wpAnyM_firstP hi (Region.noSelect_spec hs) hQ him fuel listed a w (Region.free_spec hi hf) (by simpa using hr) hy hS h
theorem wpAnyM_step {i : Nat} {o : Oper} {fuel : Nat} {listed : Array Bool} {a : Act} {w : World} (hr : Region.ready md ops listed = [i]) (ho : ops[i]? = some o) (him : i ≠ m)
    (h : ∀ K' : Act → World → Prop, Shut (∀ a w, S w → (S w → wpAnyM P md ops Q S m fuel (listed.setIfInBounds i true) a w) → K' a w) → if Region.wanted o (yielded ops a.tmps) = true then Oper.wp P o a w K' Q else K' (a.put o.dst undef) w) :
    wpAnyM P md ops Q S m (fuel + 1) listed a w := by
  refine ⟨fun h0 => ?_, fun j hj => ?_⟩
  · rw [hr] at h0; cases h0
  · rw [hr] at hj
    obtain rfl : j = i := by simpa using hj
    exact wpOp_step ho (fun K' hK => h K' (fun a w hS hW => hK a w ⟨fun e => absurd e him, fun _ => ⟨hS, hW hS⟩⟩))
theorem wpAnyM_last {o : Oper} {fuel : Nat} {listed : Array Bool} {a : Act} {w : World} (hr : Region.ready md ops listed = [m]) (ho : ops[m]? = some o)
    (h : ∀ K' : Act → World → Prop, Shut (∀ a w, wpAny P md ops Q fuel (listed.setIfInBounds m true) a w → K' a w) → if Region.wanted o (yielded ops a.tmps) = true then Oper.wp P o a w K' Q else K' (a.put o.dst undef) w) :
    wpAnyM P md ops Q S m (fuel + 1) listed a w := by
  refine ⟨fun h0 => ?_, fun j hj => ?_⟩
  · rw [hr] at h0; cases h0
  · rw [hr] at hj
    obtain rfl : j = m := by simpa using hj
    exact wpOp_step ho (fun K' hK => h K' (fun a w hW => hK a w ⟨fun _ => hW, fun e => absurd rfl e⟩))
theorem wpAny_step {i : Nat} {o : Oper} {fuel : Nat} {listed : Array Bool} {a : Act} {w : World} (hr : Region.ready md ops listed = [i]) (ho : ops[i]? = some o)
    (h : ∀ K' : Act → World → Prop, Shut (∀ a w, wpAny P md ops Q fuel (listed.setIfInBounds i true) a w → K' a w) → if Region.wanted o (yielded ops a.tmps) = true then Oper.wp P o a w K' Q else K' (a.put o.dst undef) w) :
    wpAny P md ops Q (fuel + 1) listed a w := by
  refine ⟨fun h0 => ?_, fun j hj => ?_⟩
  · rw [hr] at h0; cases h0
  · rw [hr] at hj
    obtain rfl : j = i := by simpa using hj
    exact wpOp_step ho (fun K' hK => h K' hK)
/-- the beginning -/
theorem wp_region_M {id : Nat} {a : Act} {w : World} (S : World → Prop) (m : Nat) (hm : P.follows .mixedOrders = true) (hS : S w.drew)
    (h : S w.drew → wpAnyM P .any ops Q S m ops.size (Array.replicate ops.size false) a w.drew) : (Code.region id ops true).wp P Q a w :=
  wp_region_any hm (wpAny_of_M _ _ _ _ (h hS))
end
end Go.Proofs.Ytpjkcmmmpgncmaa
/- The reference's l7Copy: a hall in new memory (bounds). -/
namespace Go.Proofs.Ytpjkcmmmpgncmaa
open Go.RowKit
/-- what those who talk hold can be read, and is small -/
def TOk (W : World) (x : Tk) : Prop := WK W x.ws.1 x.ws.2.2 ∧ NK W x.ns.1 x.ns.2.2 ∧ x.inb.size ≤ 1000
def TsOk (W : World) (L : List Tk) : Prop := ∀ x ∈ L, TOk W x
theorem TOk.kp {W W' : World} {x : Tk} (h : TOk W x) (hk : Kp W W') : TOk W' x := ⟨h.1.kp hk, h.2.1.kp hk, h.2.2⟩
theorem TsOk.kp {W W' : World} {L : List Tk} (h : TsOk W L) (hk : Kp W W') : TsOk W' L := fun x hx => (h x hx).kp hk
theorem TsOk.below {W W' : World} {L : List Tk} (h : TsOk W L) (hb : Below W.heap.size W W') : TsOk W' L := h.kp (Kp.below hb)
theorem VK.below {W W' : World} {now : Int} {A : Option Addr} {l : List Ver} (h : VK W now A l) (hb : Below W.heap.size W W') : VK W' now A l := h.kp (Kp.below hb)
/-- a store to a block of another type -/
theorem SlK.farT {α : Type} {enc : α → List Value} {k : Nat} {t th : TypeId} {W : World} {A : Option Addr} {l : List α} (h : SlK enc k t W A l) {g i : Nat} {cs : Array Value} (hB : Blk W g th cs) (hne : t ≠ th) (u : Value) : SlK enc k t (W.setCell ⟨g, i, none⟩ u) A l := fun hl => by
  obtain ⟨b, o, cs2, e, hb, hc⟩ := h hl
  exact ⟨b, o, cs2, e, hb.far (p := ⟨g, i, none⟩) (blk_ne hb hB hne) u, hc⟩
theorem VK.farT {W : World} {now : Int} {A : Option Addr} {l : List Ver} (h : VK W now A l) {g i : Nat} {cs : Array Value} (hB : Blk W g 35 cs) (u : Value) : VK (W.setCell ⟨g, i, none⟩ u) now A l := ⟨h.1.farT hB (by decide) u, h.2⟩
theorem TsOk.farT {W : World} {L : List Tk} (h : TsOk W L) {g i : Nat} {cs : Array Value} (hB : Blk W g 35 cs) (u : Value) : TsOk (W.setCell ⟨g, i, none⟩ u) L := fun x hx => ⟨⟨(h x hx).1.1.farT hB (by decide) u, (h x hx).1.2⟩, ⟨(h x hx).2.1.1.farT hB (by decide) u, (h x hx).2.1.2⟩, (h x hx).2.2⟩
/-- a row of those who talk grew: their own rows, and the versions, did not turn -/
theorem kp_own {w w' : World} {B n : Nat} {v : Value} {xs : List Value} (h : w.ownsRow B 81 8 v n xs) (hg : w.grownBy w' v.ownBlock) : Kp w w' := by
  refine ⟨hg.size, fun b cs t hb ht => hb.grown hg ?_⟩
  rcases h.2 with ⟨e, h0⟩ | ⟨g, cap, cur, e, hB, hh, r⟩
  · rw [e]; simp [Value.ownBlock]
  · rw [e]
    intro e2
    simp [Value.ownBlock] at e2
    subst e2
    unfold Blk at hb
    rw [hh] at hb
    injection hb with hb
    injection hb with e1 e3
    exact ht (e3 ▸ (by decide))
theorem own_ge8 {w : World} {B n : Nat} {v : Value} {xs : List Value} (h : w.ownsRow B 81 8 v n xs) {g : Nat} {cs : Array Value} (hB : Blk w g 35 cs) : ∀ j, v.ownBlock = some j → j ≠ g := by
  intro j hj e
  subst e
  rcases h.2 with ⟨e, h0⟩ | ⟨g, cap, cur, e, hB2, hh, r⟩
  · rw [e] at hj; simp [Value.ownBlock] at hj
  · rw [e] at hj
    simp [Value.ownBlock] at hj
    subst hj
    exact blk_ne (show Blk w g 81 cur from hh) hB (by decide) rfl
theorem own_farN {W : World} {B k n g1 i : Nat} {e : TypeId} {v : Value} {xs : List Value} (h : W.ownsRow B e k v n xs) (hne : ∀ j, v.ownBlock = some j → j ≠ g1) (u : Value) : (W.setCell ⟨g1, i, none⟩ u).ownsRow B e k v n xs := by
  refine ⟨h.1, ?_⟩
  rcases h.2 with h2 | ⟨g, cap, cur, hv, hg, hh, r⟩
  · exact .inl h2
  · refine .inr ⟨g, cap, cur, hv, hg, ?_, r⟩
    have := hne g (by rw [hv]; rfl)
    exact (heap_setCell_other W ⟨g1, i, none⟩ g u this).trans hh
theorem encTk_one (l : List Tk) : ∀ u ∈ l.flatMap encTk, u.oneCell' = true := by
  intro u hu
  obtain ⟨x, _, hx⟩ := List.mem_flatMap.1 hu
  simp [encTk] at hx
  rcases hx with rfl | rfl | rfl | rfl | rfl | rfl | rfl | rfl <;> rfl
/-- one who talks lies there -/
def RdK (W : World) (b o : Nat) (y : Tk) : Prop := W.cell? ⟨b, o, none⟩ = some (.bool y.on) ∧ W.cell? ⟨b, o + 1, none⟩ = some (.bool y.bad) ∧ W.cell? ⟨b, o + 2, none⟩ = some (.int .i64 y.at_) ∧ W.cell? ⟨b, o + 3, none⟩ = some (.slice y.ws.1 y.ws.2.2.length y.ws.2.1) ∧ W.cell? ⟨b, o + 4, none⟩ = some (.slice y.ns.1 y.ns.2.2.length y.ns.2.1) ∧ W.cell? ⟨b, o + 5, none⟩ = some (.bool y.skip) ∧ W.cell? ⟨b, o + 6, none⟩ = some (.bool y.gone) ∧ W.cell? ⟨b, o + 7, none⟩ = some (.string y.inb)
theorem RdK.of {W : World} {b o : Nat} {y : Tk} (h : ∀ j, j < 8 → W.cell? ⟨b, o + j, none⟩ = (encTk y)[j]?) : RdK W b o y := ⟨h 0 (by decide), h 1 (by decide), h 2 (by decide), h 3 (by decide), h 4 (by decide), h 5 (by decide), h 6 (by decide), h 7 (by decide)⟩
theorem RdK.all {W W' : World} {b o : Nat} {y : Tk} (h : RdK W b o y) (hc : ∀ j, W'.cell? ⟨b, j, none⟩ = W.cell? ⟨b, j, none⟩) : RdK W' b o y := ⟨(hc _).trans h.1, (hc _).trans h.2.1, (hc _).trans h.2.2.1, (hc _).trans h.2.2.2.1, (hc _).trans h.2.2.2.2.1, (hc _).trans h.2.2.2.2.2.1, (hc _).trans h.2.2.2.2.2.2.1, (hc _).trans h.2.2.2.2.2.2.2⟩
theorem RdK.below {W W' : World} {b o : Nat} {y : Tk} (h : RdK W b o y) (hb : b < W.heap.size) (hk : Below W.heap.size W W') : RdK W' b o y := h.all (fun j => hk.cell (p := ⟨b, j, none⟩) hb)
theorem RdK.grown {W W' : World} {b o : Nat} {y : Tk} (h : RdK W b o y) (hb : b < W.heap.size) {r : Option Nat} (hg : W.grownBy W' r) (hr : r ≠ some b) : RdK W' b o y := h.all (fun j => by
  have := hg.block b hb (fun e => hr e.symm)
  simp only [World.cell?, this])
/-- how l7Copy leaves -/
def CopyH (w : World) (now : Int) (l : List Ver) (n : Nat) (e : Ending) (w' : World) : Prop := ∃ (A' : Option Addr) (c' : Nat) (AT' : Option Addr) (cT' : Nat) (L' : List Tk), e = .returned (.agg #[.int .i64 now, .slice A' l.length c', .slice AT' L'.length cT']) ∧ VK w' now A' l ∧ OwnT w' w.heap.size (.slice AT' L'.length cT') L' ∧ L'.length = n ∧ TsOk w' L' ∧ Below w.heap.size w w'
set_option maxRecDepth 100000 in
set_option maxHeartbeats 16000000 in
theorem l7Copy_any (now : Int) (A : Option Addr) (l : List Ver) (c : Nat) (AT : Option Addr) (L : List Tk) (cT : Nat) (w : World) (hV : VK w now A l) (hS : Sl encTk 8 w AT L) (hT : TsOk w L) (hL : L.length ≤ 3) :
    Calls Try.prog 99 #[.agg #[.int .i64 now, .slice A l.length c, .slice AT L.length cT]] w (CopyH w now l L.length) := by
  have hl60 : l.length ≤ 60 := hV.2.2.1
  have HV := Lib.hid hV
  have HS := Lib.hid hS
  have HT := Lib.hid hT
  clear hV hS hT
  go_enter Try.func99, Try.ntmps99
  go_wp2_with fail
  have hb0 : Below w.heap.size w ((w.alloc (.cells #[.int .i64 now, .slice A l.length c, .slice AT L.length cT] 35)).alloc (.cells #[.int .i64 0, .slice none 0 0, .slice none 0 0] 35)) := ((Below.refl _ _).alloc (Nat.le_refl _) _).alloc (by simp) _
  have hB1 : Blk ((w.alloc (.cells #[.int .i64 now, .slice A l.length c, .slice AT L.length cT] 35)).alloc (.cells #[.int .i64 0, .slice none 0 0, .slice none 0 0] 35)) w.heap.size 35 #[.int .i64 now, .slice A l.length c, .slice AT L.length cT] := (Blk.new w 35 #[.int .i64 now, .slice A l.length c, .slice AT L.length cT]).alloc _
  have hB2 : Blk ((w.alloc (.cells #[.int .i64 now, .slice A l.length c, .slice AT L.length cT] 35)).alloc (.cells #[.int .i64 0, .slice none 0 0, .slice none 0 0] 35)) (w.heap.size + 1) 35 #[.int .i64 0, .slice none 0 0, .slice none 0 0] := by
    have h := Blk.new (w.alloc (.cells #[.int .i64 now, .slice A l.length c, .slice AT L.length cT] 35)) 35 #[.int .i64 0, .slice none 0 0, .slice none 0 0]
    rwa [World.size_alloc] at h
  change Calls _ _ _ ((w.alloc (.cells #[.int .i64 now, .slice A l.length c, .slice AT L.length cT] 35)).alloc (.cells #[.int .i64 0, .slice none 0 0, .slice none 0 0] 35)) _
  generalize (w.alloc (.cells #[.int .i64 now, .slice A l.length c, .slice AT L.length cT] 35)).alloc (.cells #[.int .i64 0, .slice none 0 0, .slice none 0 0] 35) = w0 at *
  refine (l2Copy_any A l c now _ (by omega) (VK.sl (HV.out.below hb0))).mono ?_
  rintro e w1 ⟨v1, rfl, hov, hb1⟩
  obtain ⟨A1, c1, rfl, _, _, _⟩ := hov.sl
  have HVV := Lib.hid (VK.of hov HV.out.2.1 HV.out.2.2.1 HV.out.2.2.2.1 HV.out.2.2.2.2)
  have HB01 := Lib.hid (bthen hb0 hb1)
  have HP1 := Lib.hid (hB1.kept hb1)
  have HP2 := Lib.hid (hB2.kept hb1)
  have hlt2 : w.heap.size + 1 < w1.heap.size := HP2.out.lt
  clear hov hb1 hb0 hB1 hB2
  go_wp2
  go_loopw [4] (fun i wr => ∃ (k : Nat) (AX : Option Addr) (LX : List Tk) (cX : Nat), k ≤ L.length ∧ i = .int .i64 k ∧ Hid (LX.length = k) ∧ Hid (Below w.heap.size w wr) ∧ Hid (Blk wr w.heap.size 35 #[.int .i64 now, .slice A l.length c, .slice AT L.length cT]) ∧ Hid (Blk wr (w.heap.size + 1) 35 #[.int .i64 0, .slice none 0 0, .slice none 0 0]) ∧ Hid (Blk wr w1.heap.size 35 #[.int .i64 now, .slice A1 l.length c1, .slice AX k cX]) ∧ Hid (VK wr now A1 l) ∧ Hid (OwnT wr w.heap.size (.slice AX k cX) LX) ∧ Hid (TsOk wr LX)) (fun i _ => L.length - (intOf i).toNat)
  case atStart =>
    refine ⟨0, none, [], 0, by omega, rfl, Lib.hid rfl, Lib.hid (bthen HB01.out (kF w1 _)), Lib.hid (HP1.out.alloc _), Lib.hid (HP2.out.alloc _), Lib.hid (Blk.new w1 35 #[.int .i64 now, .slice A1 l.length c1, .slice none 0 0]), Lib.hid (HVV.out.below (kF w1 _)), ?_, Lib.hid (fun x hx => absurd hx (by simp))⟩
    exact Lib.hid ⟨by first | rfl | simp | decide, .inl ⟨rfl, rfl⟩⟩
  case round =>
    obtain ⟨k, AX, LX, cX, hk, rfl, HLX, HBE, HP1, HP2, HX, HVV, HO, HTX⟩ := hrel
    clear HB01
    by_cases hlt : k < L.length
    case pos =>
      obtain ⟨bT, oT, hAT, hbTw, hcs⟩ := HS.out (by omega)
      have hR0 : RdK w bT (oT + k * 8) L[k] := RdK.of (fun j hj => hcs k j _ (List.getElem?_eq_getElem hlt) hj)
      have hbT : bT < wr.heap.size := Nat.lt_of_lt_of_le hbTw HBE.out.size
      have HXK := Lib.hid (HT.out L[k] (List.getElem_mem hlt))
      have hki : (k : Int) < (L.length : Int) := by omega
      have hki0 : (0 : Int) ≤ (k : Int) := by omega
      clear hcs
      subst hAT
      generalize L[k] = y at *
      have HRK := Lib.hid (hR0.below hbTw HBE.out)
      clear hR0
      have c_q0 : ∀ W : World, Blk W w1.heap.size 35 #[.int .i64 now, .slice A1 l.length c1, .slice AX k cX] ∧ Blk W w.heap.size 35 #[.int .i64 now, .slice A l.length c, .slice (some ⟨bT, oT, none⟩) L.length cT] ∧ RdK W bT (oT + k * 8) y → W.cell? ⟨w1.heap.size, 0, none⟩ = some (.int .i64 now) := fun W h => h.1.cell 0
      have c_q1 : ∀ W : World, Blk W w1.heap.size 35 #[.int .i64 now, .slice A1 l.length c1, .slice AX k cX] ∧ Blk W w.heap.size 35 #[.int .i64 now, .slice A l.length c, .slice (some ⟨bT, oT, none⟩) L.length cT] ∧ RdK W bT (oT + k * 8) y → W.cell? ⟨w1.heap.size, 1, none⟩ = some (.slice A1 l.length c1) := fun W h => h.1.cell 1
      have c_q2 : ∀ W : World, Blk W w1.heap.size 35 #[.int .i64 now, .slice A1 l.length c1, .slice AX k cX] ∧ Blk W w.heap.size 35 #[.int .i64 now, .slice A l.length c, .slice (some ⟨bT, oT, none⟩) L.length cT] ∧ RdK W bT (oT + k * 8) y → W.cell? ⟨w1.heap.size, 2, none⟩ = some (.slice AX k cX) := fun W h => h.1.cell 2
      have c_r0 : ∀ W : World, Blk W w1.heap.size 35 #[.int .i64 now, .slice A1 l.length c1, .slice AX k cX] ∧ Blk W w.heap.size 35 #[.int .i64 now, .slice A l.length c, .slice (some ⟨bT, oT, none⟩) L.length cT] ∧ RdK W bT (oT + k * 8) y → W.cell? ⟨w.heap.size, 0, none⟩ = some (.int .i64 now) := fun W h => h.2.1.cell 0
      have c_r1 : ∀ W : World, Blk W w1.heap.size 35 #[.int .i64 now, .slice A1 l.length c1, .slice AX k cX] ∧ Blk W w.heap.size 35 #[.int .i64 now, .slice A l.length c, .slice (some ⟨bT, oT, none⟩) L.length cT] ∧ RdK W bT (oT + k * 8) y → W.cell? ⟨w.heap.size, 1, none⟩ = some (.slice A l.length c) := fun W h => h.2.1.cell 1
      have c_r2 : ∀ W : World, Blk W w1.heap.size 35 #[.int .i64 now, .slice A1 l.length c1, .slice AX k cX] ∧ Blk W w.heap.size 35 #[.int .i64 now, .slice A l.length c, .slice (some ⟨bT, oT, none⟩) L.length cT] ∧ RdK W bT (oT + k * 8) y → W.cell? ⟨w.heap.size, 2, none⟩ = some (.slice (some ⟨bT, oT, none⟩) L.length cT) := fun W h => h.2.1.cell 2
      have c_s0 : ∀ W : World, Blk W w1.heap.size 35 #[.int .i64 now, .slice A1 l.length c1, .slice AX k cX] ∧ Blk W w.heap.size 35 #[.int .i64 now, .slice A l.length c, .slice (some ⟨bT, oT, none⟩) L.length cT] ∧ RdK W bT (oT + k * 8) y → W.cell? ⟨bT, oT + k * 8, none⟩ = some (.bool y.on) := fun W h => h.2.2.1
      have c_s1 : ∀ W : World, Blk W w1.heap.size 35 #[.int .i64 now, .slice A1 l.length c1, .slice AX k cX] ∧ Blk W w.heap.size 35 #[.int .i64 now, .slice A l.length c, .slice (some ⟨bT, oT, none⟩) L.length cT] ∧ RdK W bT (oT + k * 8) y → W.cell? ⟨bT, oT + k * 8 + 1, none⟩ = some (.bool y.bad) := fun W h => h.2.2.2.1
      have c_s2 : ∀ W : World, Blk W w1.heap.size 35 #[.int .i64 now, .slice A1 l.length c1, .slice AX k cX] ∧ Blk W w.heap.size 35 #[.int .i64 now, .slice A l.length c, .slice (some ⟨bT, oT, none⟩) L.length cT] ∧ RdK W bT (oT + k * 8) y → W.cell? ⟨bT, oT + k * 8 + 2, none⟩ = some (.int .i64 y.at_) := fun W h => h.2.2.2.2.1
      have c_s3 : ∀ W : World, Blk W w1.heap.size 35 #[.int .i64 now, .slice A1 l.length c1, .slice AX k cX] ∧ Blk W w.heap.size 35 #[.int .i64 now, .slice A l.length c, .slice (some ⟨bT, oT, none⟩) L.length cT] ∧ RdK W bT (oT + k * 8) y → W.cell? ⟨bT, oT + k * 8 + 3, none⟩ = some (.slice y.ws.1 y.ws.2.2.length y.ws.2.1) := fun W h => h.2.2.2.2.2.1
      have c_s4 : ∀ W : World, Blk W w1.heap.size 35 #[.int .i64 now, .slice A1 l.length c1, .slice AX k cX] ∧ Blk W w.heap.size 35 #[.int .i64 now, .slice A l.length c, .slice (some ⟨bT, oT, none⟩) L.length cT] ∧ RdK W bT (oT + k * 8) y → W.cell? ⟨bT, oT + k * 8 + 4, none⟩ = some (.slice y.ns.1 y.ns.2.2.length y.ns.2.1) := fun W h => h.2.2.2.2.2.2.1
      have c_s5 : ∀ W : World, Blk W w1.heap.size 35 #[.int .i64 now, .slice A1 l.length c1, .slice AX k cX] ∧ Blk W w.heap.size 35 #[.int .i64 now, .slice A l.length c, .slice (some ⟨bT, oT, none⟩) L.length cT] ∧ RdK W bT (oT + k * 8) y → W.cell? ⟨bT, oT + k * 8 + 5, none⟩ = some (.bool y.skip) := fun W h => h.2.2.2.2.2.2.2.1
      have c_s6 : ∀ W : World, Blk W w1.heap.size 35 #[.int .i64 now, .slice A1 l.length c1, .slice AX k cX] ∧ Blk W w.heap.size 35 #[.int .i64 now, .slice A l.length c, .slice (some ⟨bT, oT, none⟩) L.length cT] ∧ RdK W bT (oT + k * 8) y → W.cell? ⟨bT, oT + k * 8 + 6, none⟩ = some (.bool y.gone) := fun W h => h.2.2.2.2.2.2.2.2.1
      have c_s7 : ∀ W : World, Blk W w1.heap.size 35 #[.int .i64 now, .slice A1 l.length c1, .slice AX k cX] ∧ Blk W w.heap.size 35 #[.int .i64 now, .slice A l.length c, .slice (some ⟨bT, oT, none⟩) L.length cT] ∧ RdK W bT (oT + k * 8) y → W.cell? ⟨bT, oT + k * 8 + 7, none⟩ = some (.string y.inb) := fun W h => h.2.2.2.2.2.2.2.2.2
      have hS0 : Blk wr.drew w1.heap.size 35 #[.int .i64 now, .slice A1 l.length c1, .slice AX k cX] ∧ Blk wr.drew w.heap.size 35 #[.int .i64 now, .slice A l.length c, .slice (some ⟨bT, oT, none⟩) L.length cT] ∧ RdK wr.drew bT (oT + k * 8) y := ⟨HX.out.kept (kE wr), HP1.out.kept (kE wr), HRK.out.below hbT (kE wr)⟩
      obtain ⟨i0, hi0, hz0, hz1, hz2⟩ := info_parts infoTalk
      have HI := Lib.hid (⟨hi0, hz0, hz1, hz2⟩ : _ ∧ _ ∧ _ ∧ _)
      clear hi0 hz0 hz1 hz2
      have hb1x : w1.heap.size < wr.heap.size := HX.out.lt
      have r0 := HP1.out.cell 0
      have r1 := HP1.out.cell 1
      have r2 := HP1.out.cell 2
      simp only [List.getElem?_toArray, List.getElem?_cons_zero, List.getElem?_cons_succ] at r0 r1 r2
      go_upto_region 5 with fail
      clear r0 r1 r2
      refine wp_region_M ((fun W => Blk W w1.heap.size 35 #[.int .i64 now, .slice A1 l.length c1, .slice AX k cX] ∧ Blk W w.heap.size 35 #[.int .i64 now, .slice A l.length c, .slice (some ⟨bT, oT, none⟩) L.length cT] ∧ RdK W bT (oT + k * 8) y)) 11 (by kernel_rfl) ((by (try dsimp only); (with_reducible assumption))) (fun hHeld => ?_)
      refine wpAnyM_takeP (i := 0) (v := ?_) rfl (by kernel_rfl) (by kernel_rfl) (by kernel_rfl) (by decide) (fun _ _ _ h => h) (Or.inl ⟨by rfl, ?_⟩) (by assumption) ?_
      rotate_left 1
      · (intro w; go_simp); all_goals (with_reducible rfl)
      try simp only [Act.put, List.getElem_toArray, List.getElem_cons_zero, List.setIfInBounds_toArray, List.set_cons_zero, List.set_cons_succ]
      refine wpAnyM_take (i := 1) (v := ?_) rfl (by kernel_rfl) (by kernel_rfl) (by kernel_rfl) (by kernel_rfl) (by decide) (fun _ _ _ h => h) (Or.inl ⟨by rfl, ?_⟩) (by assumption) ?_
      rotate_left 1
      · (intro w hSw; (try dsimp only at hSw); go_simp); all_goals (with_reducible rfl)
      try simp only [Act.put, List.getElem_toArray, List.getElem_cons_zero, List.getElem_cons_succ, List.setIfInBounds_toArray, List.set_cons_zero, List.set_cons_succ]
      refine wpAnyM_takeP (i := 2) (v := ?_) rfl (by kernel_rfl) (by kernel_rfl) (by kernel_rfl) (by decide) (fun _ _ _ h => h) (Or.inl ⟨by rfl, ?_⟩) (by assumption) ?_
      rotate_left 1
      · (intro w; go_simp); all_goals (with_reducible rfl)
      try simp only [Act.put, List.getElem_toArray, List.getElem_cons_zero, List.getElem_cons_succ, List.setIfInBounds_toArray, List.set_cons_zero, List.set_cons_succ]
      refine wpAnyM_take (i := 3) (v := ?_) rfl (by kernel_rfl) (by kernel_rfl) (by kernel_rfl) (by kernel_rfl) (by decide) (fun _ _ _ h => h) (Or.inl ⟨by rfl, ?_⟩) (by assumption) ?_
      rotate_left 1
      · (intro w hSw; (try dsimp only at hSw); go_simp); all_goals (with_reducible rfl)
      try simp only [Act.put, List.getElem_toArray, List.getElem_cons_zero, List.getElem_cons_succ, List.setIfInBounds_toArray, List.set_cons_zero, List.set_cons_succ]
      refine wpAnyM_takeP (i := 4) (v := ?_) rfl (by kernel_rfl) (by kernel_rfl) (by kernel_rfl) (by decide) (fun _ _ _ h => h) (Or.inl ⟨by rfl, ?_⟩) (by assumption) ?_
      rotate_left 1
      · (intro w; go_simp); all_goals (with_reducible rfl)
      try simp only [Act.put, List.getElem_toArray, List.getElem_cons_zero, List.getElem_cons_succ, List.setIfInBounds_toArray, List.set_cons_zero, List.set_cons_succ]
      refine wpAnyM_takeP (i := 5) (v := ?_) rfl (by kernel_rfl) (by kernel_rfl) (by kernel_rfl) (by decide) (fun _ _ _ h => h) (Or.inl ⟨by rfl, ?_⟩) (by assumption) ?_
      rotate_left 1
      · (intro w; go_simp); all_goals (with_reducible rfl)
      try simp only [Act.put, List.getElem_toArray, List.getElem_cons_zero, List.getElem_cons_succ, List.setIfInBounds_toArray, List.set_cons_zero, List.set_cons_succ]
      refine wpAnyM_take (i := 6) (v := ?_) rfl (by kernel_rfl) (by kernel_rfl) (by kernel_rfl) (by kernel_rfl) (by decide) (fun _ _ _ h => h) (Or.inl ⟨by rfl, ?_⟩) (by assumption) ?_
      rotate_left 1
      · (intro w hSw; (try dsimp only at hSw); go_simp); all_goals (with_reducible rfl)
      try simp only [Act.put, List.getElem_toArray, List.getElem_cons_zero, List.getElem_cons_succ, List.setIfInBounds_toArray, List.set_cons_zero, List.set_cons_succ]
      refine wpAnyM_step (i := 7) (by kernel_rfl) rfl (by decide) (fun K hK => ?_)
      go_simp
      refine (l6Copy_any y.on y.bad y.at_ y.ws.1 y.ws.2.2 y.ws.2.1 y.ns.1 y.ns.2.2 y.ns.2.1 y.skip y.gone y.inb _ ((HXK.out.kp (Kp.below (bthen HBE.out (kE wr)))).1) ((HXK.out.kp (Kp.below (bthen HBE.out (kE wr)))).2.1)).mono ?_
      rintro e wb ⟨A6, c6, A63, c63, rfl, hW6, hN6, hbb⟩
      have hbR := bthen (kE wr) hbb
      have hS1 : Blk wb w1.heap.size 35 #[.int .i64 now, .slice A1 l.length c1, .slice AX k cX] ∧ Blk wb w.heap.size 35 #[.int .i64 now, .slice A l.length c, .slice (some ⟨bT, oT, none⟩) L.length cT] ∧ RdK wb bT (oT + k * 8) y := ⟨HX.out.kept hbR, HP1.out.kept hbR, HRK.out.below hbT hbR⟩
      have HWN := Lib.hid (⟨hW6, hN6⟩ : _ ∧ _)
      have HBR := Lib.hid hbR
      clear hW6 hN6 hbb hbR
      go_wp2_with fail
      refine hK.out _ _ ?_ (fun hHeld => ?_)
      · (try dsimp only); (with_reducible assumption)
      clear hK K
      try simp only [Act.put, List.getElem_toArray, List.getElem_cons_zero, List.getElem_cons_succ, List.setIfInBounds_toArray, List.set_cons_zero, List.set_cons_succ]
      refine wpAnyM_step (i := 8) (by kernel_rfl) rfl (by decide) (fun K hK => ?_)
      go_simp
      have HBA := Lib.hid (bthen HBR.out (kF wb (.cells #[.bool y.on, .bool y.bad, .int .i64 y.at_, .slice A6 y.ws.2.2.length c6, .slice A63 y.ns.2.2.length c63, .bool y.skip, .bool y.gone, .string y.inb] 81)))
      have hS2 : Blk (wb.alloc (.cells #[.bool y.on, .bool y.bad, .int .i64 y.at_, .slice A6 y.ws.2.2.length c6, .slice A63 y.ns.2.2.length c63, .bool y.skip, .bool y.gone, .string y.inb] 81)) w1.heap.size 35 #[.int .i64 now, .slice A1 l.length c1, .slice AX k cX] ∧ Blk (wb.alloc (.cells #[.bool y.on, .bool y.bad, .int .i64 y.at_, .slice A6 y.ws.2.2.length c6, .slice A63 y.ns.2.2.length c63, .bool y.skip, .bool y.gone, .string y.inb] 81)) w.heap.size 35 #[.int .i64 now, .slice A l.length c, .slice (some ⟨bT, oT, none⟩) L.length cT] ∧ RdK (wb.alloc (.cells #[.bool y.on, .bool y.bad, .int .i64 y.at_, .slice A6 y.ws.2.2.length c6, .slice A63 y.ns.2.2.length c63, .bool y.skip, .bool y.gone, .string y.inb] 81)) bT (oT + k * 8) y := ⟨HX.out.kept HBA.out, HP1.out.kept HBA.out, HRK.out.below hbT HBA.out⟩
      refine hK.out _ _ ?_ (fun hHeld => ?_)
      · (try dsimp only); (with_reducible assumption)
      clear hK K
      try simp only [Act.put, List.getElem_toArray, List.getElem_cons_zero, List.getElem_cons_succ, List.setIfInBounds_toArray, List.set_cons_zero, List.set_cons_succ]
      refine wpAnyM_step (i := 9) (by kernel_rfl) rfl (by decide) (fun K hK => ?_)
      obtain ⟨Y, hY⟩ : ∃ Y : Tk, Y = ⟨y.on, y.bad, y.at_, (A6, c6, y.ws.2.2), (A63, c63, y.ns.2.2), y.skip, y.gone, y.inb⟩ := ⟨_, rfl⟩
      have hnew : Sl encTk 8 (wb.alloc (.cells #[.bool y.on, .bool y.bad, .int .i64 y.at_, .slice A6 y.ws.2.2.length c6, .slice A63 y.ns.2.2.length c63, .bool y.skip, .bool y.gone, .string y.inb] 81)) (some ⟨wb.heap.size, 0, none⟩) [Y] := by subst hY; exact SlK.sl (SlK.of_own (t := 81) (B := wb.heap.size) (n := 1) (c := 1) encTk_len (own_of_blk (base := wb.heap.size) (n := 1) (k := 8) (xs := [.bool y.on, .bool y.bad, .int .i64 y.at_, .slice A6 y.ws.2.2.length c6, .slice A63 y.ns.2.2.length c63, .bool y.skip, .bool y.gone, .string y.inb]) (Blk.new wb _ _) (Nat.le_refl _) (by decide) rfl rfl))
      have HYK : Hid (TOk (wb.alloc (.cells #[.bool y.on, .bool y.bad, .int .i64 y.at_, .slice A6 y.ws.2.2.length c6, .slice A63 y.ns.2.2.length c63, .bool y.skip, .bool y.gone, .string y.inb] 81)) Y) := Lib.hid (by subst hY; exact TOk.kp ⟨HWN.out.1, HWN.out.2, HXK.out.2.2⟩ (Kp.below (kF wb _)))
      have HOA := Lib.hid (own_kept (show wr.ownsRow w.heap.size 81 8 (.slice AX k cX) k (LX.flatMap encTk) from HLX.out ▸ HO.out) HBA.out)
      refine step_append_sl (enc := encTk) rfl (.tmp 17) (.tmp 24) 33 rfl w.heap.size 81 i0 _ 8 88 Try.underlying33 HI.out.1 HI.out.2.1 HI.out.2.2.1 HI.out.2.2.2 rfl (by decide) (.slice AX k cX) k (LX.flatMap encTk) (by simp [Act.eval]) HOA.out encTk_len (some ⟨wb.heap.size, 0, none⟩) [Y] 1 (by simp [Act.eval]) hnew (encTk_one _) (by unfold maxLen; simp; omega) (by simp; omega) (Nat.le_trans HBE.out.size HBA.out.size) ?_
      intro v8 w8 ho8 hg8
      have hbTA : bT < (wb.alloc (.cells #[.bool y.on, .bool y.bad, .int .i64 y.at_, .slice A6 y.ws.2.2.length c6, .slice A63 y.ns.2.2.length c63, .bool y.skip, .bool y.gone, .string y.inb] 81)).heap.size := Nat.lt_of_lt_of_le hbT HBA.out.size
      have hnb : ∀ j, (Value.slice AX k cX).ownBlock = some j → w.heap.size ≤ j := fun j hj => ownB HOA.out j hj
      have hS3 : Blk w8 w1.heap.size 35 #[.int .i64 now, .slice A1 l.length c1, .slice AX k cX] ∧ Blk w8 w.heap.size 35 #[.int .i64 now, .slice A l.length c, .slice (some ⟨bT, oT, none⟩) L.length cT] ∧ RdK w8 bT (oT + k * 8) y := ⟨hS2.1.grown hg8 (fun e => own_ge8 HOA.out hS2.1 _ e.symm rfl), hS2.2.1.grown hg8 (fun e => own_ge8 HOA.out hS2.2.1 _ e.symm rfl), hS2.2.2.grown hbTA hg8 (fun e => by have := hnb bT e; omega)⟩
      have hkp := (Kp.below HBA.out).trans (kp_own HOA.out hg8)
      have HR8 := Lib.hid (⟨HVV.out.kp hkp, HTX.out.kp hkp, HYK.out.kp (kp_own HOA.out hg8), HP2.out.kept HBA.out |>.grown hg8 (fun e => own_ge8 HOA.out (HP2.out.kept HBA.out) _ e.symm rfl), below_own (bthen HBE.out HBA.out) hg8 (Nat.le_trans HBE.out.size HBA.out.size) (fun j hj => hnb j hj)⟩ : VK w8 now A1 l ∧ TsOk w8 LX ∧ TOk w8 Y ∧ Blk w8 (w.heap.size + 1) 35 #[.int .i64 0, .slice none 0 0, .slice none 0 0] ∧ Below w.heap.size w w8)
      have HO8 : Hid (∃ A8 c8, v8 = .slice A8 (k + 1) c8 ∧ OwnT w8 w.heap.size (.slice A8 (k + 1) c8) (LX ++ [Y])) := Lib.hid (by
        have h9 : OwnT w8 w.heap.size v8 (LX ++ [Y]) := ownT_app (by rw [HLX.out]; simpa using ho8)
        obtain ⟨A9, c9, e9, _, _, _⟩ := Sl.of_own encTk_len h9
        have e10 : (LX ++ [Y]).length = k + 1 := by rw [List.length_append, HLX.out]; rfl
        rw [e10] at e9
        subst e9
        exact ⟨A9, c9, rfl, h9⟩)
      obtain ⟨A8, c8, rfl, hO8⟩ := HO8.out
      have HOW := Lib.hid hO8
      have hl8 : w1.heap.size < w8.heap.size := hS3.1.lt
      have hf8 := fun j => hS3.1.frozen j
      clear ho8 hg8 HO8 hO8 hnew hkp hnb hY HOA
      refine hK.out _ _ ?_ (fun hHeld => ?_)
      · (try dsimp only); (with_reducible assumption)
      clear hK K
      try simp only [Act.put, List.getElem_toArray, List.getElem_cons_zero, List.getElem_cons_succ, List.setIfInBounds_toArray, List.set_cons_zero, List.set_cons_succ]
      refine wpAnyM_takeP (i := 10) (v := ?_) rfl (by kernel_rfl) (by kernel_rfl) (by kernel_rfl) (by decide) (fun _ _ _ h => h) (Or.inl ⟨by rfl, ?_⟩) (by assumption) ?_
      rotate_left 1
      · (intro w; go_simp); all_goals (with_reducible rfl)
      try simp only [Act.put, List.getElem_toArray, List.getElem_cons_zero, List.getElem_cons_succ, List.setIfInBounds_toArray, List.set_cons_zero, List.set_cons_succ]
      refine wpAnyM_last (by kernel_rfl) rfl (fun K hK => ?_)
      go_simp
      refine hK.out _ _ ?_
      clear hK K
      try simp only [Act.put, List.getElem_toArray, List.getElem_cons_zero, List.getElem_cons_succ, List.setIfInBounds_toArray, List.set_cons_zero, List.set_cons_succ]
      refine wpAny_done (by kernel_rfl) ?_ _
      have hb8 := hS3.1
      go_wp2
      go_roundw
      case rel => exact ⟨k + 1, A8, LX ++ [Y], c8, by omega, by go_num, Lib.hid (by rw [List.length_append, HLX.out]; rfl), Lib.hid (HR8.out.2.2.2.2.setCell (by simp only; omega) _), Lib.hid (hS3.2.1.far (p := ⟨w1.heap.size, 2, none⟩) (by simp only; omega) _), Lib.hid (HR8.out.2.2.2.1.far (p := ⟨w1.heap.size, 2, none⟩) (by simp only; omega) _), Lib.hid (hb8.set_ 2 _), Lib.hid (HR8.out.1.farT hb8 _), Lib.hid (own_farN HOW.out (own_ge8 HOW.out hb8) _), Lib.hid (TsOk.farT (fun x hx => by rcases List.mem_append.1 hx with hx | hx; exact HR8.out.2.1 x hx; simp at hx; subst hx; exact HR8.out.2.2.1) hb8 _)⟩
      case measure => simp [intOf]; omega
    case neg =>
      obtain rfl : k = L.length := by omega
      have hkk : ¬ (L.length : Int) < (L.length : Int) := by omega
      have r0 := HP1.out.cell 0
      have q0 := HX.out.cell 0
      have t0 := HP2.out.cell 0
      have r1 := HP1.out.cell 1
      have q1 := HX.out.cell 1
      have t1 := HP2.out.cell 1
      have r2 := HP1.out.cell 2
      have q2 := HX.out.cell 2
      have t2 := HP2.out.cell 2
      simp only [List.getElem?_toArray, List.getElem?_cons_zero, List.getElem?_cons_succ] at r0 r1 r2 q0 q1 q2 t0 t1 t2
      have z0 := fun j => HP2.out.frozen j
      have hl0 := HP2.out.lt
      have hlX := HX.out.lt
      have HB2 := Lib.hid (HP2.out)
      have hs1 := HP2.out.set_ 0 (.int .i64 now)
      have hs2 := hs1.set_ 1 (.slice A1 l.length c1)
      have HQ := Lib.hid (⟨((HVV.out.farT HP2.out _).farT hs1 _).farT hs2 _, own_farN (own_farN (own_farN HO.out (own_ge8 HO.out HP2.out) _) (own_ge8 (own_farN HO.out (own_ge8 HO.out HP2.out) _) hs1) _) (own_ge8 (own_farN (own_farN HO.out (own_ge8 HO.out HP2.out) _) (own_ge8 (own_farN HO.out (own_ge8 HO.out HP2.out) _) hs1) _) hs2) _, ((HTX.out.farT HP2.out _).farT hs1 _).farT hs2 _, ((HBE.out.setCell (p := ⟨w.heap.size + 1, 0, none⟩) (by simp) _).setCell (p := ⟨w.heap.size + 1, 1, none⟩) (by simp) _).setCell (p := ⟨w.heap.size + 1, 2, none⟩) (by simp) _⟩ : VK (((wr.setCell ⟨w.heap.size + 1, 0, none⟩ (.int .i64 now)).setCell ⟨w.heap.size + 1, 1, none⟩ (.slice A1 l.length c1)).setCell ⟨w.heap.size + 1, 2, none⟩ (.slice AX L.length cX)) now A1 l ∧ OwnT (((wr.setCell ⟨w.heap.size + 1, 0, none⟩ (.int .i64 now)).setCell ⟨w.heap.size + 1, 1, none⟩ (.slice A1 l.length c1)).setCell ⟨w.heap.size + 1, 2, none⟩ (.slice AX L.length cX)) w.heap.size (.slice AX L.length cX) LX ∧ TsOk (((wr.setCell ⟨w.heap.size + 1, 0, none⟩ (.int .i64 now)).setCell ⟨w.heap.size + 1, 1, none⟩ (.slice A1 l.length c1)).setCell ⟨w.heap.size + 1, 2, none⟩ (.slice AX L.length cX)) LX ∧ Below w.heap.size w (((wr.setCell ⟨w.heap.size + 1, 0, none⟩ (.int .i64 now)).setCell ⟨w.heap.size + 1, 1, none⟩ (.slice A1 l.length c1)).setCell ⟨w.heap.size + 1, 2, none⟩ (.slice AX L.length cX)))
      clear hs1 hs2
      go_wp2
      refine bodyPost_ret (v := .agg #[.int .i64 now, .slice A1 l.length c1, .slice AX L.length cX]) ?_ rfl ⟨A1, c1, AX, cX, LX, by rw [HLX.out], HQ.out.1, by rw [HLX.out]; exact HQ.out.2.1, HLX.out, HQ.out.2.2.1, HQ.out.2.2.2⟩
      simp [results, Try.results99, go_sem, t0, t1, t2]
end Go.Proofs.Ytpjkcmmmpgncmaa
/- The reference's l7Do: something happens, in memory of one's own (bounds). -/
namespace Go.Proofs.Ytpjkcmmmpgncmaa
open Go.RowKit
theorem cell_far (W : World) {g i b j : Nat} (hne : b ≠ g) (u : Value) : (W.setCell ⟨g, i, none⟩ u).cell? ⟨b, j, none⟩ = W.cell? ⟨b, j, none⟩ := by
  simp only [World.cell?, heap_setCell_other W ⟨g, i, none⟩ b u hne]
theorem set_take {α : Type} (a : Array α) (j m : Nat) (u : α) : (a.setIfInBounds j u).toList.take m = (a.toList.take m).set j u := by
  rw [Array.toList_setIfInBounds, List.take_set]
/-- one cell of a row of one's own is stored -/
theorem own_pokeJ {W : World} {B k n b cT j : Nat} {e : TypeId} {xs : List Value} (h : W.ownsRow B e k (.slice (some ⟨b, 0, none⟩) n cT) n xs) (u : Value) : (W.setCell ⟨b, j, none⟩ u).ownsRow B e k (.slice (some ⟨b, 0, none⟩) n cT) n (xs.set j u) := by
  refine ⟨by rw [List.length_set]; exact h.1, ?_⟩
  rcases h.2 with ⟨e1, _⟩ | ⟨g, cap, cur, hv, hg, hh, hn, hm, hs, ht⟩
  · simp at e1
  · injection hv with h1 h2 h3
    injection h1 with h1
    injection h1 with h1
    subst h1 h3
    refine .inr ⟨_, _, cur.setIfInBounds j u, rfl, hg, (show Blk W b e cur from hh).set_ j u, hn, hm, by rw [Array.size_setIfInBounds]; exact hs, ?_⟩
    rw [set_take, ht]
theorem flat_set {L : List Tk} {i : Nat} (y : Tk) (hi : i < L.length) : (L.set i y).flatMap encTk = ((((((((L.flatMap encTk).set (i * 8) (.bool y.on)).set (i * 8 + 1) (.bool y.bad)).set (i * 8 + 2) (.int .i64 y.at_)).set (i * 8 + 3) (.slice y.ws.1 y.ws.2.2.length y.ws.2.1)).set (i * 8 + 4) (.slice y.ns.1 y.ns.2.2.length y.ns.2.1)).set (i * 8 + 5) (.bool y.skip)).set (i * 8 + 6) (.bool y.gone)).set (i * 8 + 7) (.string y.inb) := by
  induction L generalizing i with
  | nil => simp at hi
  | cons x L ih =>
    cases i with
    | zero => simp [encTk, List.flatMap_cons]
    | succ i =>
      have e0 : (i + 1) * 8 = i * 8 + 8 := by omega
      rw [List.set_cons_succ, List.flatMap_cons, ih (by simpa using hi), List.flatMap_cons]
      simp only [e0, encTk, List.cons_append, List.nil_append, List.set_cons_succ]
/-- what stands while something happens -/
def DoS (w : World) (B : Nat) (now : Int) (A : Option Addr) (l : List Ver) (c b cT : Nat) (L : List Tk) (kind who : Int) (bs : ByteArray) (W : World) : Prop := Blk W w.heap.size 35 #[.int .i64 now, .slice A l.length c, .slice (some ⟨b, 0, none⟩) 3 cT] ∧ Blk W (w.heap.size + 1) 58 #[.int .i64 kind, .int .i64 who, .string bs] ∧ Blk W (w.heap.size + 2) 35 #[.int .i64 0, .slice none 0 0, .slice none 0 0] ∧ VK W now A l ∧ OwnT W B (.slice (some ⟨b, 0, none⟩) 3 cT) L ∧ (L.length = 3 ∧ TsOk W L) ∧ w.grownBy W (some b) ∧ (b < w.heap.size ∧ B ≤ b)
section
variable {w W W' : World} {B : Nat} {now : Int} {A : Option Addr} {l : List Ver} {c b cT : Nat} {L : List Tk} {kind who : Int} {bs : ByteArray}
theorem DoS.below (h : DoS w B now A l c b cT L kind who bs W) (hb : Below W.heap.size W W') : DoS w B now A l c b cT L kind who bs W' :=
  ⟨h.1.kept hb, h.2.1.kept hb, h.2.2.1.kept hb, h.2.2.2.1.below hb, own_kept h.2.2.2.2.1 hb, ⟨h.2.2.2.2.2.1.1, h.2.2.2.2.2.1.2.below hb⟩, gr_trans h.2.2.2.2.2.2.1 (gr_below hb), h.2.2.2.2.2.2.2⟩
theorem DoS.row (h : DoS w B now A l c b cT L kind who bs W) : ∃ cur, Blk W b 81 cur := by
  rcases h.2.2.2.2.1.2 with ⟨e1, _⟩ | ⟨g, cap, cur, hv, hg, hh, _⟩
  · simp at e1
  · injection hv with h1 h2 h3
    injection h1 with h1
    injection h1 with h1
    subst h1
    exact ⟨cur, hh⟩
theorem gr_self {w w' : World} {b : Nat} (h : w.grownBy w' (some b)) (i : Nat) (u : Value) : w.grownBy (w'.setCell ⟨b, i, none⟩ u) (some b) :=
  ⟨h.os, h.tape, h.output, by rw [World.size_setCell]; exact h.size, fun k hk hr => (heap_setCell_other w' ⟨b, i, none⟩ k u (fun e => hr (by rw [e]))).trans (h.block k hk hr)⟩
end
theorem DoS.put {w W : World} {B : Nat} {now : Int} {A : Option Addr} {l : List Ver} {c b cT : Nat} {L : List Tk} {kind who : Int} {bs : ByteArray} (h : DoS w B now A l c b cT L kind who bs W) {i : Nat} (hi : i < 3) (y : Tk) (hy : TOk W y) :
    DoS w B now A l c b cT (L.set i y) kind who bs ((((((((W.setCell ⟨b, i * 8, none⟩ (.bool y.on)).setCell ⟨b, i * 8 + 1, none⟩ (.bool y.bad)).setCell ⟨b, i * 8 + 2, none⟩ (.int .i64 y.at_)).setCell ⟨b, i * 8 + 3, none⟩ (.slice y.ws.1 y.ws.2.2.length y.ws.2.1)).setCell ⟨b, i * 8 + 4, none⟩ (.slice y.ns.1 y.ns.2.2.length y.ns.2.1)).setCell ⟨b, i * 8 + 5, none⟩ (.bool y.skip)).setCell ⟨b, i * 8 + 6, none⟩ (.bool y.gone)).setCell ⟨b, i * 8 + 7, none⟩ (.string y.inb)) := by
  have hL := h.2.2.2.2.2.1.1
  obtain ⟨cur, hB⟩ := h.row
  have hb := h.2.2.2.2.2.2.2.1
  have hO := h.2.2.2.2.1
  unfold OwnT at hO
  rw [hL] at hO
  have hO8 := own_pokeJ (j := i * 8 + 7) (own_pokeJ (j := i * 8 + 6) (own_pokeJ (j := i * 8 + 5) (own_pokeJ (j := i * 8 + 4) (own_pokeJ (j := i * 8 + 3) (own_pokeJ (j := i * 8 + 2) (own_pokeJ (j := i * 8 + 1) (own_pokeJ (j := i * 8) (hO) (.bool y.on)) (.bool y.bad)) (.int .i64 y.at_)) (.slice y.ws.1 y.ws.2.2.length y.ws.2.1)) (.slice y.ns.1 y.ns.2.2.length y.ns.2.1)) (.bool y.skip)) (.bool y.gone)) (.string y.inb)
  have k0 := Kp.refl W
  have B0 := hB
  have k1 := k0.set (i := i * 8) B0 (by decide) (.bool y.on)
  have B1 := B0.set_ (i * 8) (.bool y.on)
  have k2 := k1.set (i := i * 8 + 1) B1 (by decide) (.bool y.bad)
  have B2 := B1.set_ (i * 8 + 1) (.bool y.bad)
  have k3 := k2.set (i := i * 8 + 2) B2 (by decide) (.int .i64 y.at_)
  have B3 := B2.set_ (i * 8 + 2) (.int .i64 y.at_)
  have k4 := k3.set (i := i * 8 + 3) B3 (by decide) (.slice y.ws.1 y.ws.2.2.length y.ws.2.1)
  have B4 := B3.set_ (i * 8 + 3) (.slice y.ws.1 y.ws.2.2.length y.ws.2.1)
  have k5 := k4.set (i := i * 8 + 4) B4 (by decide) (.slice y.ns.1 y.ns.2.2.length y.ns.2.1)
  have B5 := B4.set_ (i * 8 + 4) (.slice y.ns.1 y.ns.2.2.length y.ns.2.1)
  have k6 := k5.set (i := i * 8 + 5) B5 (by decide) (.bool y.skip)
  have B6 := B5.set_ (i * 8 + 5) (.bool y.skip)
  have k7 := k6.set (i := i * 8 + 6) B6 (by decide) (.bool y.gone)
  have B7 := B6.set_ (i * 8 + 6) (.bool y.gone)
  have k8 := k7.set (i := i * 8 + 7) B7 (by decide) (.string y.inb)
  have B8 := B7.set_ (i * 8 + 7) (.string y.inb)
  refine ⟨((((((((h.1).far (p := ⟨b, i * 8, none⟩) (by simp only; omega) (.bool y.on)).far (p := ⟨b, i * 8 + 1, none⟩) (by simp only; omega) (.bool y.bad)).far (p := ⟨b, i * 8 + 2, none⟩) (by simp only; omega) (.int .i64 y.at_)).far (p := ⟨b, i * 8 + 3, none⟩) (by simp only; omega) (.slice y.ws.1 y.ws.2.2.length y.ws.2.1)).far (p := ⟨b, i * 8 + 4, none⟩) (by simp only; omega) (.slice y.ns.1 y.ns.2.2.length y.ns.2.1)).far (p := ⟨b, i * 8 + 5, none⟩) (by simp only; omega) (.bool y.skip)).far (p := ⟨b, i * 8 + 6, none⟩) (by simp only; omega) (.bool y.gone)).far (p := ⟨b, i * 8 + 7, none⟩) (by simp only; omega) (.string y.inb), ((((((((h.2.1).far (p := ⟨b, i * 8, none⟩) (by simp only; omega) (.bool y.on)).far (p := ⟨b, i * 8 + 1, none⟩) (by simp only; omega) (.bool y.bad)).far (p := ⟨b, i * 8 + 2, none⟩) (by simp only; omega) (.int .i64 y.at_)).far (p := ⟨b, i * 8 + 3, none⟩) (by simp only; omega) (.slice y.ws.1 y.ws.2.2.length y.ws.2.1)).far (p := ⟨b, i * 8 + 4, none⟩) (by simp only; omega) (.slice y.ns.1 y.ns.2.2.length y.ns.2.1)).far (p := ⟨b, i * 8 + 5, none⟩) (by simp only; omega) (.bool y.skip)).far (p := ⟨b, i * 8 + 6, none⟩) (by simp only; omega) (.bool y.gone)).far (p := ⟨b, i * 8 + 7, none⟩) (by simp only; omega) (.string y.inb), ((((((((h.2.2.1).far (p := ⟨b, i * 8, none⟩) (by simp only; omega) (.bool y.on)).far (p := ⟨b, i * 8 + 1, none⟩) (by simp only; omega) (.bool y.bad)).far (p := ⟨b, i * 8 + 2, none⟩) (by simp only; omega) (.int .i64 y.at_)).far (p := ⟨b, i * 8 + 3, none⟩) (by simp only; omega) (.slice y.ws.1 y.ws.2.2.length y.ws.2.1)).far (p := ⟨b, i * 8 + 4, none⟩) (by simp only; omega) (.slice y.ns.1 y.ns.2.2.length y.ns.2.1)).far (p := ⟨b, i * 8 + 5, none⟩) (by simp only; omega) (.bool y.skip)).far (p := ⟨b, i * 8 + 6, none⟩) (by simp only; omega) (.bool y.gone)).far (p := ⟨b, i * 8 + 7, none⟩) (by simp only; omega) (.string y.inb), h.2.2.2.1.kp k8, ?_, ⟨by rw [List.length_set]; exact hL, fun x hx => ?_⟩, gr_self (gr_self (gr_self (gr_self (gr_self (gr_self (gr_self (gr_self (h.2.2.2.2.2.2.1) _ _) _ _) _ _) _ _) _ _) _ _) _ _) _ _, h.2.2.2.2.2.2.2⟩
  · unfold OwnT
    rw [List.length_set, hL, flat_set y (by omega)]
    exact hO8
  · rcases List.mem_or_eq_of_mem_set hx with hx | rfl
    · exact (h.2.2.2.2.2.1.2 x hx).kp k8
    · exact hy.kp k8
/-- the versions are stored -/
theorem DoS.vers {w W : World} {B : Nat} {now : Int} {A : Option Addr} {l : List Ver} {c b cT : Nat} {L : List Tk} {kind who : Int} {bs : ByteArray} (h : DoS w B now A l c b cT L kind who bs W) (now' : Int) (A' : Option Addr) (l' : List Ver) (c' : Nat) (hV : VK W now' A' l') :
    DoS w B now' A' l' c' b cT L kind who bs ((W.setCell ⟨w.heap.size, 0, none⟩ (.int .i64 now')).setCell ⟨w.heap.size, 1, none⟩ (.slice A' l'.length c')) := by
  have h1 := h.1.set_ 0 (.int .i64 now')
  have hO1 := own_farN h.2.2.2.2.1 (own_ge8 h.2.2.2.2.1 h.1) (i := 0) (.int .i64 now')
  exact ⟨h1.set_ 1 (.slice A' l'.length c'), (h.2.1.far (p := ⟨w.heap.size, 0, none⟩) (by simp only; omega) _).far (p := ⟨w.heap.size, 1, none⟩) (by simp only; omega) _, (h.2.2.1.far (p := ⟨w.heap.size, 0, none⟩) (by simp only; omega) _).far (p := ⟨w.heap.size, 1, none⟩) (by simp only; omega) _, (hV.farT h.1 _).farT h1 _, own_farN hO1 (own_ge8 hO1 h1) _, ⟨h.2.2.2.2.2.1.1, (h.2.2.2.2.2.1.2.farT h.1 _).farT h1 _⟩, gr_far (gr_far h.2.2.2.2.2.2.1 (p := ⟨w.heap.size, 0, none⟩) (Nat.le_refl _) _) (p := ⟨w.heap.size, 1, none⟩) (Nat.le_refl _) _, h.2.2.2.2.2.2.2⟩
/-- how l7Do leaves -/
def DoH (w : World) (B b cT : Nat) (e : Ending) (w' : World) : Prop := ∃ (now : Int) (A : Option Addr) (l : List Ver) (c : Nat) (L : List Tk) (o : ByteArray), e = .returned (.tuple #[.agg #[.int .i64 now, .slice A l.length c, .slice (some ⟨b, 0, none⟩) 3 cT], .string o]) ∧ VK w' now A l ∧ OwnT w' B (.slice (some ⟨b, 0, none⟩) 3 cT) L ∧ L.length = 3 ∧ TsOk w' L ∧ w.grownBy w' (some b)
theorem DoS.fin {w W : World} {B : Nat} {now : Int} {A : Option Addr} {l : List Ver} {c b cT : Nat} {L : List Tk} {kind who : Int} {bs : ByteArray} (h : DoS w B now A l c b cT L kind who bs W) (o : ByteArray) :
    DoH w B b cT (.returned (.tuple #[.agg #[.int .i64 now, .slice A l.length c, .slice (some ⟨b, 0, none⟩) 3 cT], .string o])) (((W.setCell ⟨w.heap.size + 2, 0, none⟩ (.int .i64 now)).setCell ⟨w.heap.size + 2, 1, none⟩ (.slice A l.length c)).setCell ⟨w.heap.size + 2, 2, none⟩ (.slice (some ⟨b, 0, none⟩) 3 cT)) := by
  have h0 := h.2.2.1
  have h1 := h0.set_ 0 (.int .i64 now)
  have h2 := h1.set_ 1 (.slice A l.length c)
  have hO1 := own_farN h.2.2.2.2.1 (own_ge8 h.2.2.2.2.1 h0) (i := 0) (.int .i64 now)
  have hO2 := own_farN hO1 (own_ge8 hO1 h1) (i := 1) (.slice A l.length c)
  have hO3 := own_farN hO2 (own_ge8 hO2 h2) (i := 2) (.slice (some ⟨b, 0, none⟩) 3 cT)
  exact ⟨now, A, l, c, L, o, rfl, ((h.2.2.2.1.farT h0 _).farT h1 _).farT h2 _, hO3, h.2.2.2.2.2.1.1, ((h.2.2.2.2.2.1.2.farT h0 _).farT h1 _).farT h2 _, gr_far (gr_far (gr_far h.2.2.2.2.2.2.1 (p := ⟨w.heap.size + 2, 0, none⟩) (by simp) _) (p := ⟨w.heap.size + 2, 1, none⟩) (by simp) _) (p := ⟨w.heap.size + 2, 2, none⟩) (by simp) _⟩
def ZT : Tk := ⟨false, false, 0, (none, 0, []), (none, 0, []), false, false, ⟨#[]⟩⟩
theorem TOk.z (W : World) : TOk W ZT := ⟨WK.nil _ _, NK.nil _ _, Nat.zero_le _⟩
theorem TOk.gone (W : World) : TOk W goneT := ⟨WK.nil _ _, NK.nil _ _, Nat.zero_le _⟩
set_option maxRecDepth 100000 in
set_option maxHeartbeats 16000000 in
theorem l7Do_any (B : Nat) (now : Int) (A : Option Addr) (l : List Ver) (c b cT : Nat) (L : List Tk) (kind who : Int) (bs : ByteArray) (w : World) (hV : VK w now A l) (hO : OwnT w B (.slice (some ⟨b, 0, none⟩) 3 cT) L) (hL : L.length = 3) (hT : TsOk w L) (hbB : b < w.heap.size ∧ B ≤ b) :
    Calls Try.prog 98 #[.agg #[.int .i64 now, .slice A l.length c, .slice (some ⟨b, 0, none⟩) 3 cT], .agg #[.int .i64 kind, .int .i64 who, .string bs]] w (DoH w B b cT) := by
  have H : Hid (DoS w B now A l c b cT L kind who bs (((w.alloc (.cells #[.int .i64 now, .slice A l.length c, .slice (some ⟨b, 0, none⟩) 3 cT] 35)).alloc (.cells #[.int .i64 kind, .int .i64 who, .string bs] 58)).alloc (.cells #[.int .i64 0, .slice none 0 0, .slice none 0 0] 35))) := Lib.hid (by
    have b1 := Blk.new w 35 #[.int .i64 now, .slice A l.length c, .slice (some ⟨b, 0, none⟩) 3 cT]
    have b2 := Blk.new (w.alloc (.cells #[.int .i64 now, .slice A l.length c, .slice (some ⟨b, 0, none⟩) 3 cT] 35)) 58 #[.int .i64 kind, .int .i64 who, .string bs]
    have b3 := Blk.new ((w.alloc (.cells #[.int .i64 now, .slice A l.length c, .slice (some ⟨b, 0, none⟩) 3 cT] 35)).alloc (.cells #[.int .i64 kind, .int .i64 who, .string bs] 58)) 35 #[.int .i64 0, .slice none 0 0, .slice none 0 0]
    rw [World.size_alloc] at b2 b3
    rw [World.size_alloc] at b3
    have hb : Below w.heap.size w (((w.alloc (.cells #[.int .i64 now, .slice A l.length c, .slice (some ⟨b, 0, none⟩) 3 cT] 35)).alloc (.cells #[.int .i64 kind, .int .i64 who, .string bs] 58)).alloc (.cells #[.int .i64 0, .slice none 0 0, .slice none 0 0] 35)) := (((Below.refl _ _).alloc (Nat.le_refl _) _).alloc (by simp) _).alloc (by simp; omega) _
    exact ⟨(b1.alloc _).alloc _, b2.alloc _, b3, hV.below hb, own_kept hO hb, ⟨hL, hT.below hb⟩, gr_below hb, hbB⟩)
  clear hV hO hT
  go_enter Try.func98, Try.ntmps98
  go_upto_region 1 with fail
  change Code.wp _ _ _ _ (((w.alloc (.cells #[.int .i64 now, .slice A l.length c, .slice (some ⟨b, 0, none⟩) 3 cT] 35)).alloc (.cells #[.int .i64 kind, .int .i64 who, .string bs] 58)).alloc (.cells #[.int .i64 0, .slice none 0 0, .slice none 0 0] 35))
  generalize ((w.alloc (.cells #[.int .i64 now, .slice A l.length c, .slice (some ⟨b, 0, none⟩) 3 cT] 35)).alloc (.cells #[.int .i64 kind, .int .i64 who, .string bs] 58)).alloc (.cells #[.int .i64 0, .slice none 0 0, .slice none 0 0] 35) = w0 at *
  by_cases hw0 : who < 0
  case pos =>
    have x0_0 := H.out.1.cell 0
    have x0_1 := H.out.1.cell 1
    have x0_2 := H.out.1.cell 2
    have x1_0 := H.out.2.1.cell 0
    have x1_1 := H.out.2.1.cell 1
    have x1_2 := H.out.2.1.cell 2
    have x2_0 := H.out.2.2.1.cell 0
    have x2_1 := H.out.2.2.1.cell 1
    have x2_2 := H.out.2.2.1.cell 2
    simp only [List.getElem?_toArray, List.getElem?_cons_zero, List.getElem?_cons_succ] at x0_0 x0_1 x0_2 x1_0 x1_1 x1_2 x2_0 x2_1 x2_2
    have z2 := fun j => H.out.2.2.1.frozen j
    have z0 := fun j => H.out.1.frozen j
    have y0 := H.out.1.lt
    have y2 := H.out.2.2.1.lt
    go_wp2
    refine bodyPost_ret (v := .tuple #[.agg #[.int .i64 now, .slice A l.length c, .slice (some ⟨b, 0, none⟩) 3 cT], .string ⟨#[]⟩]) ?_ rfl (H.out.fin ⟨#[]⟩)
    simp [results, Try.results98, go_sem, x2_0, x2_1, x2_2]
  by_cases hw3 : 3 ≤ who
  case pos =>
    have x0_0 := H.out.1.cell 0
    have x0_1 := H.out.1.cell 1
    have x0_2 := H.out.1.cell 2
    have x1_0 := H.out.2.1.cell 0
    have x1_1 := H.out.2.1.cell 1
    have x1_2 := H.out.2.1.cell 2
    have x2_0 := H.out.2.2.1.cell 0
    have x2_1 := H.out.2.2.1.cell 1
    have x2_2 := H.out.2.2.1.cell 2
    simp only [List.getElem?_toArray, List.getElem?_cons_zero, List.getElem?_cons_succ] at x0_0 x0_1 x0_2 x1_0 x1_1 x1_2 x2_0 x2_1 x2_2
    have z2 := fun j => H.out.2.2.1.frozen j
    have z0 := fun j => H.out.1.frozen j
    have y0 := H.out.1.lt
    have y2 := H.out.2.2.1.lt
    go_wp2
    refine bodyPost_ret (v := .tuple #[.agg #[.int .i64 now, .slice A l.length c, .slice (some ⟨b, 0, none⟩) 3 cT], .string ⟨#[]⟩]) ?_ rfl (H.out.fin ⟨#[]⟩)
    simp [results, Try.results98, go_sem, x2_0, x2_1, x2_2]
  obtain ⟨i, rfl⟩ : ∃ i : Nat, who = (i : Int) := ⟨who.toNat, by omega⟩
  have hi3 : i < 3 := by omega
  have hiL : i < L.length := by omega
  have hii : (i : Int) < 3 := by omega
  have hi0 : (0 : Int) ≤ (i : Int) := by omega
  have hn3 : ¬ (3 : Int) ≤ (i : Int) := by omega
  have hn0 : ¬ (i : Int) < 0 := by omega
  have HR : Hid (RdK w0 b (i * 8) L[i]) := Lib.hid (RdK.of (fun j hj => by
    obtain ⟨b9, o9, e9, _, h9⟩ := SlK.sl (SlK.of_own encTk_len (show w0.ownsRow B 81 8 (.slice (some ⟨b, 0, none⟩) 3 cT) L.length (L.flatMap encTk) from H.out.2.2.2.2.1)) (by omega)
    injection e9 with e9
    injection e9 with e9 e10
    subst e9 e10
    have := h9 i j _ (List.getElem?_eq_getElem hiL) hj
    rwa [Nat.zero_add] at this))
  have HTI := Lib.hid (H.out.2.2.2.2.2.1.2 L[i] (List.getElem_mem hiL))
  generalize hty : L[i] = y at *
  clear hty
  obtain ⟨cur, hrow⟩ := H.out.row
  have hzr := fun j => hrow.frozen j
  have hlr := hrow.lt
  clear hrow
  have x0_0 := H.out.1.cell 0
  have x0_1 := H.out.1.cell 1
  have x0_2 := H.out.1.cell 2
  have x1_0 := H.out.2.1.cell 0
  have x1_1 := H.out.2.1.cell 1
  have x1_2 := H.out.2.1.cell 2
  have x2_0 := H.out.2.2.1.cell 0
  have x2_1 := H.out.2.2.1.cell 1
  have x2_2 := H.out.2.2.1.cell 2
  simp only [List.getElem?_toArray, List.getElem?_cons_zero, List.getElem?_cons_succ] at x0_0 x0_1 x0_2 x1_0 x1_1 x1_2 x2_0 x2_1 x2_2
  have z2 := fun j => H.out.2.2.1.frozen j
  have z0 := fun j => H.out.1.frozen j
  have y0 := H.out.1.lt
  have y2 := H.out.2.2.1.lt
  have t0 : w0.cell? ⟨b, i * 8, none⟩ = some (.bool y.on) := HR.out.1
  have t1 : w0.cell? ⟨b, i * 8 + 1, none⟩ = some (.bool y.bad) := HR.out.2.1
  have t2 : w0.cell? ⟨b, i * 8 + 2, none⟩ = some (.int .i64 y.at_) := HR.out.2.2.1
  have t3 : w0.cell? ⟨b, i * 8 + 3, none⟩ = some (.slice y.ws.1 y.ws.2.2.length y.ws.2.1) := HR.out.2.2.2.1
  have t4 : w0.cell? ⟨b, i * 8 + 4, none⟩ = some (.slice y.ns.1 y.ns.2.2.length y.ns.2.1) := HR.out.2.2.2.2.1
  have t5 : w0.cell? ⟨b, i * 8 + 5, none⟩ = some (.bool y.skip) := HR.out.2.2.2.2.2.1
  have t6 : w0.cell? ⟨b, i * 8 + 6, none⟩ = some (.bool y.gone) := HR.out.2.2.2.2.2.2.1
  have t7 : w0.cell? ⟨b, i * 8 + 7, none⟩ = some (.string y.inb) := HR.out.2.2.2.2.2.2.2
  go_upto_region 4 with fail
  have B6 := Blk.new w0 81 #[.bool y.on, .bool y.bad, .int .i64 y.at_, .slice y.ws.1 y.ws.2.2.length y.ws.2.1, .slice y.ns.1 y.ns.2.2.length y.ns.2.1, .bool y.skip, .bool y.gone, .string y.inb]
  replace H := Lib.hid (H.out.below (kF w0 (.cells #[.bool y.on, .bool y.bad, .int .i64 y.at_, .slice y.ws.1 y.ws.2.2.length y.ws.2.1, .slice y.ns.1 y.ns.2.2.length y.ns.2.1, .bool y.skip, .bool y.gone, .string y.inb] 81)))
  replace HTI := Lib.hid (HTI.out.kp (Kp.below (kF w0 (.cells #[.bool y.on, .bool y.bad, .int .i64 y.at_, .slice y.ws.1 y.ws.2.2.length y.ws.2.1, .slice y.ns.1 y.ns.2.2.length y.ns.2.1, .bool y.skip, .bool y.gone, .string y.inb] 81))))
  replace HR := Lib.hid (HR.out.below hlr (kF w0 (.cells #[.bool y.on, .bool y.bad, .int .i64 y.at_, .slice y.ws.1 y.ws.2.2.length y.ws.2.1, .slice y.ns.1 y.ns.2.2.length y.ns.2.1, .bool y.skip, .bool y.gone, .string y.inb] 81)))
  clear x0_0 x0_1 x0_2 x1_0 x1_1 x1_2 x2_0 x2_1 x2_2 z2 z0 y0 y2 hzr hlr cur t0 t1 t2 t3 t4 t5 t6 t7
  obtain ⟨b6, hb6⟩ : ∃ b6, b6 = w0.heap.size := ⟨_, rfl⟩
  change Code.wp _ _ _ _ (w0.alloc (.cells #[.bool y.on, .bool y.bad, .int .i64 y.at_, .slice y.ws.1 y.ws.2.2.length y.ws.2.1, .slice y.ns.1 y.ns.2.2.length y.ns.2.1, .bool y.skip, .bool y.gone, .string y.inb] 81))
  rw [← hb6] at B6 ⊢
  generalize w0.alloc (.cells #[.bool y.on, .bool y.bad, .int .i64 y.at_, .slice y.ws.1 y.ws.2.2.length y.ws.2.1, .slice y.ns.1 y.ns.2.2.length y.ns.2.1, .bool y.skip, .bool y.gone, .string y.inb] 81) = w1 at *
  clear hb6 w0
  by_cases hk3 : kind = 3
  case pos =>
    subst hk3
    cases hyg : y.gone
    case false =>
      have x0_0 := H.out.1.cell 0
      have x0_1 := H.out.1.cell 1
      have x0_2 := H.out.1.cell 2
      have x1_0 := H.out.2.1.cell 0
      have x1_1 := H.out.2.1.cell 1
      have x1_2 := H.out.2.1.cell 2
      have x2_0 := H.out.2.2.1.cell 0
      have x2_1 := H.out.2.2.1.cell 1
      have x2_2 := H.out.2.2.1.cell 2
      simp only [List.getElem?_toArray, List.getElem?_cons_zero, List.getElem?_cons_succ] at x0_0 x0_1 x0_2 x1_0 x1_1 x1_2 x2_0 x2_1 x2_2
      have z2 := fun j => H.out.2.2.1.frozen j
      have z0 := fun j => H.out.1.frozen j
      have y0 := H.out.1.lt
      have y2 := H.out.2.2.1.lt
      have t0 : w1.cell? ⟨b6, 0, none⟩ = some (.bool y.on) := B6.cell 0
      have t1 : w1.cell? ⟨b6, 1, none⟩ = some (.bool y.bad) := B6.cell 1
      have t2 : w1.cell? ⟨b6, 2, none⟩ = some (.int .i64 y.at_) := B6.cell 2
      have t3 : w1.cell? ⟨b6, 3, none⟩ = some (.slice y.ws.1 y.ws.2.2.length y.ws.2.1) := B6.cell 3
      have t4 : w1.cell? ⟨b6, 4, none⟩ = some (.slice y.ns.1 y.ns.2.2.length y.ns.2.1) := B6.cell 4
      have t5 : w1.cell? ⟨b6, 5, none⟩ = some (.bool y.skip) := B6.cell 5
      have t6 : w1.cell? ⟨b6, 6, none⟩ = some (.bool y.gone) := B6.cell 6
      have t7 : w1.cell? ⟨b6, 7, none⟩ = some (.string y.inb) := B6.cell 7
      rw [hyg] at t6
      go_wp2
      refine bodyPost_ret (v := .tuple #[.agg #[.int .i64 now, .slice A l.length c, .slice (some ⟨b, 0, none⟩) 3 cT], .string ⟨#[]⟩]) ?_ rfl (H.out.fin ⟨#[]⟩)
      simp [results, Try.results98, go_sem, x2_0, x2_1, x2_2]
    case true =>
      cases hbe : (bs.toList == [])
      case false =>
        have x0_0 := H.out.1.cell 0
        have x0_1 := H.out.1.cell 1
        have x0_2 := H.out.1.cell 2
        have x1_0 := H.out.2.1.cell 0
        have x1_1 := H.out.2.1.cell 1
        have x1_2 := H.out.2.1.cell 2
        have x2_0 := H.out.2.2.1.cell 0
        have x2_1 := H.out.2.2.1.cell 1
        have x2_2 := H.out.2.2.1.cell 2
        simp only [List.getElem?_toArray, List.getElem?_cons_zero, List.getElem?_cons_succ] at x0_0 x0_1 x0_2 x1_0 x1_1 x1_2 x2_0 x2_1 x2_2
        have z2 := fun j => H.out.2.2.1.frozen j
        have z0 := fun j => H.out.1.frozen j
        have y0 := H.out.1.lt
        have y2 := H.out.2.2.1.lt
        have t0 : w1.cell? ⟨b6, 0, none⟩ = some (.bool y.on) := B6.cell 0
        have t1 : w1.cell? ⟨b6, 1, none⟩ = some (.bool y.bad) := B6.cell 1
        have t2 : w1.cell? ⟨b6, 2, none⟩ = some (.int .i64 y.at_) := B6.cell 2
        have t3 : w1.cell? ⟨b6, 3, none⟩ = some (.slice y.ws.1 y.ws.2.2.length y.ws.2.1) := B6.cell 3
        have t4 : w1.cell? ⟨b6, 4, none⟩ = some (.slice y.ns.1 y.ns.2.2.length y.ns.2.1) := B6.cell 4
        have t5 : w1.cell? ⟨b6, 5, none⟩ = some (.bool y.skip) := B6.cell 5
        have t6 : w1.cell? ⟨b6, 6, none⟩ = some (.bool y.gone) := B6.cell 6
        have t7 : w1.cell? ⟨b6, 7, none⟩ = some (.string y.inb) := B6.cell 7
        rw [hyg] at t6
        go_wp2
        refine bodyPost_ret (v := .tuple #[.agg #[.int .i64 now, .slice A l.length c, .slice (some ⟨b, 0, none⟩) 3 cT], .string ⟨#[]⟩]) ?_ rfl (H.out.fin ⟨#[]⟩)
        simp [results, Try.results98, go_sem, x2_0, x2_1, x2_2]
      case true =>
        obtain ⟨cur, hrow⟩ := H.out.row
        have hzr := fun j => hrow.frozen j
        have hlr := hrow.lt
        clear hrow
        have r0 : w1.cell? ⟨b, i * 8, none⟩ = some (.bool y.on) := HR.out.1
        have r1 : w1.cell? ⟨b, i * 8 + 1, none⟩ = some (.bool y.bad) := HR.out.2.1
        have r2 : w1.cell? ⟨b, i * 8 + 2, none⟩ = some (.int .i64 y.at_) := HR.out.2.2.1
        have r3 : w1.cell? ⟨b, i * 8 + 3, none⟩ = some (.slice y.ws.1 y.ws.2.2.length y.ws.2.1) := HR.out.2.2.2.1
        have r4 : w1.cell? ⟨b, i * 8 + 4, none⟩ = some (.slice y.ns.1 y.ns.2.2.length y.ns.2.1) := HR.out.2.2.2.2.1
        have r5 : w1.cell? ⟨b, i * 8 + 5, none⟩ = some (.bool y.skip) := HR.out.2.2.2.2.2.1
        have r6 : w1.cell? ⟨b, i * 8 + 6, none⟩ = some (.bool y.gone) := HR.out.2.2.2.2.2.2.1
        have r7 : w1.cell? ⟨b, i * 8 + 7, none⟩ = some (.string y.inb) := HR.out.2.2.2.2.2.2.2
        have x0_0 := H.out.1.cell 0
        have x0_1 := H.out.1.cell 1
        have x0_2 := H.out.1.cell 2
        have x1_0 := H.out.2.1.cell 0
        have x1_1 := H.out.2.1.cell 1
        have x1_2 := H.out.2.1.cell 2
        have x2_0 := H.out.2.2.1.cell 0
        have x2_1 := H.out.2.2.1.cell 1
        have x2_2 := H.out.2.2.1.cell 2
        simp only [List.getElem?_toArray, List.getElem?_cons_zero, List.getElem?_cons_succ] at x0_0 x0_1 x0_2 x1_0 x1_1 x1_2 x2_0 x2_1 x2_2
        have z2 := fun j => H.out.2.2.1.frozen j
        have z0 := fun j => H.out.1.frozen j
        have y0 := H.out.1.lt
        have y2 := H.out.2.2.1.lt
        have t0 : w1.cell? ⟨b6, 0, none⟩ = some (.bool y.on) := B6.cell 0
        have t1 : w1.cell? ⟨b6, 1, none⟩ = some (.bool y.bad) := B6.cell 1
        have t2 : w1.cell? ⟨b6, 2, none⟩ = some (.int .i64 y.at_) := B6.cell 2
        have t3 : w1.cell? ⟨b6, 3, none⟩ = some (.slice y.ws.1 y.ws.2.2.length y.ws.2.1) := B6.cell 3
        have t4 : w1.cell? ⟨b6, 4, none⟩ = some (.slice y.ns.1 y.ns.2.2.length y.ns.2.1) := B6.cell 4
        have t5 : w1.cell? ⟨b6, 5, none⟩ = some (.bool y.skip) := B6.cell 5
        have t6 : w1.cell? ⟨b6, 6, none⟩ = some (.bool y.gone) := B6.cell 6
        have t7 : w1.cell? ⟨b6, 7, none⟩ = some (.string y.inb) := B6.cell 7
        rw [hyg] at t6
        have HN : Hid (DoS w B now A l c b cT (L.set i ZT) 3 (i : Int) bs ((((((((w1.setCell ⟨b, i * 8, none⟩ (.bool false)).setCell ⟨b, i * 8 + 1, none⟩ (.bool false)).setCell ⟨b, i * 8 + 2, none⟩ (.int .i64 0)).setCell ⟨b, i * 8 + 3, none⟩ (.slice none 0 0)).setCell ⟨b, i * 8 + 4, none⟩ (.slice none 0 0)).setCell ⟨b, i * 8 + 5, none⟩ (.bool false)).setCell ⟨b, i * 8 + 6, none⟩ (.bool false)).setCell ⟨b, i * 8 + 7, none⟩ (.string ⟨#[]⟩))) := Lib.hid (H.out.put hi3 ZT (TOk.z _))
        have n2_0 := HN.out.2.2.1.cell 0
        have n2_1 := HN.out.2.2.1.cell 1
        have n2_2 := HN.out.2.2.1.cell 2
        simp only [List.getElem?_toArray, List.getElem?_cons_zero, List.getElem?_cons_succ] at n2_0 n2_1 n2_2
        go_wp2
        refine bodyPost_ret (v := .tuple #[.agg #[.int .i64 now, .slice A l.length c, .slice (some ⟨b, 0, none⟩) 3 cT], .string ⟨#[]⟩]) ?_ rfl (HN.out.fin ⟨#[]⟩)
        simp [results, Try.results98, go_sem, n2_0, n2_1, n2_2]
  by_cases hk2 : kind = 2
  case pos =>
    subst hk2
    cases hbe : (bs.toList == [])
    case false =>
      have x0_0 := H.out.1.cell 0
      have x0_1 := H.out.1.cell 1
      have x0_2 := H.out.1.cell 2
      have x1_0 := H.out.2.1.cell 0
      have x1_1 := H.out.2.1.cell 1
      have x1_2 := H.out.2.1.cell 2
      have x2_0 := H.out.2.2.1.cell 0
      have x2_1 := H.out.2.2.1.cell 1
      have x2_2 := H.out.2.2.1.cell 2
      simp only [List.getElem?_toArray, List.getElem?_cons_zero, List.getElem?_cons_succ] at x0_0 x0_1 x0_2 x1_0 x1_1 x1_2 x2_0 x2_1 x2_2
      have z2 := fun j => H.out.2.2.1.frozen j
      have z0 := fun j => H.out.1.frozen j
      have y0 := H.out.1.lt
      have y2 := H.out.2.2.1.lt
      have t0 : w1.cell? ⟨b6, 0, none⟩ = some (.bool y.on) := B6.cell 0
      have t1 : w1.cell? ⟨b6, 1, none⟩ = some (.bool y.bad) := B6.cell 1
      have t2 : w1.cell? ⟨b6, 2, none⟩ = some (.int .i64 y.at_) := B6.cell 2
      have t3 : w1.cell? ⟨b6, 3, none⟩ = some (.slice y.ws.1 y.ws.2.2.length y.ws.2.1) := B6.cell 3
      have t4 : w1.cell? ⟨b6, 4, none⟩ = some (.slice y.ns.1 y.ns.2.2.length y.ns.2.1) := B6.cell 4
      have t5 : w1.cell? ⟨b6, 5, none⟩ = some (.bool y.skip) := B6.cell 5
      have t6 : w1.cell? ⟨b6, 6, none⟩ = some (.bool y.gone) := B6.cell 6
      have t7 : w1.cell? ⟨b6, 7, none⟩ = some (.string y.inb) := B6.cell 7
      go_wp2
      refine bodyPost_ret (v := .tuple #[.agg #[.int .i64 now, .slice A l.length c, .slice (some ⟨b, 0, none⟩) 3 cT], .string ⟨#[]⟩]) ?_ rfl (H.out.fin ⟨#[]⟩)
      simp [results, Try.results98, go_sem, x2_0, x2_1, x2_2]
    case true =>
      obtain ⟨cur, hrow⟩ := H.out.row
      have hzr := fun j => hrow.frozen j
      have hlr := hrow.lt
      clear hrow
      have r0 : w1.cell? ⟨b, i * 8, none⟩ = some (.bool y.on) := HR.out.1
      have r1 : w1.cell? ⟨b, i * 8 + 1, none⟩ = some (.bool y.bad) := HR.out.2.1
      have r2 : w1.cell? ⟨b, i * 8 + 2, none⟩ = some (.int .i64 y.at_) := HR.out.2.2.1
      have r3 : w1.cell? ⟨b, i * 8 + 3, none⟩ = some (.slice y.ws.1 y.ws.2.2.length y.ws.2.1) := HR.out.2.2.2.1
      have r4 : w1.cell? ⟨b, i * 8 + 4, none⟩ = some (.slice y.ns.1 y.ns.2.2.length y.ns.2.1) := HR.out.2.2.2.2.1
      have r5 : w1.cell? ⟨b, i * 8 + 5, none⟩ = some (.bool y.skip) := HR.out.2.2.2.2.2.1
      have r6 : w1.cell? ⟨b, i * 8 + 6, none⟩ = some (.bool y.gone) := HR.out.2.2.2.2.2.2.1
      have r7 : w1.cell? ⟨b, i * 8 + 7, none⟩ = some (.string y.inb) := HR.out.2.2.2.2.2.2.2
      have x0_0 := H.out.1.cell 0
      have x0_1 := H.out.1.cell 1
      have x0_2 := H.out.1.cell 2
      have x1_0 := H.out.2.1.cell 0
      have x1_1 := H.out.2.1.cell 1
      have x1_2 := H.out.2.1.cell 2
      have x2_0 := H.out.2.2.1.cell 0
      have x2_1 := H.out.2.2.1.cell 1
      have x2_2 := H.out.2.2.1.cell 2
      simp only [List.getElem?_toArray, List.getElem?_cons_zero, List.getElem?_cons_succ] at x0_0 x0_1 x0_2 x1_0 x1_1 x1_2 x2_0 x2_1 x2_2
      have z2 := fun j => H.out.2.2.1.frozen j
      have z0 := fun j => H.out.1.frozen j
      have y0 := H.out.1.lt
      have y2 := H.out.2.2.1.lt
      have t0 : w1.cell? ⟨b6, 0, none⟩ = some (.bool y.on) := B6.cell 0
      have t1 : w1.cell? ⟨b6, 1, none⟩ = some (.bool y.bad) := B6.cell 1
      have t2 : w1.cell? ⟨b6, 2, none⟩ = some (.int .i64 y.at_) := B6.cell 2
      have t3 : w1.cell? ⟨b6, 3, none⟩ = some (.slice y.ws.1 y.ws.2.2.length y.ws.2.1) := B6.cell 3
      have t4 : w1.cell? ⟨b6, 4, none⟩ = some (.slice y.ns.1 y.ns.2.2.length y.ns.2.1) := B6.cell 4
      have t5 : w1.cell? ⟨b6, 5, none⟩ = some (.bool y.skip) := B6.cell 5
      have t6 : w1.cell? ⟨b6, 6, none⟩ = some (.bool y.gone) := B6.cell 6
      have t7 : w1.cell? ⟨b6, 7, none⟩ = some (.string y.inb) := B6.cell 7
      have HN : Hid (DoS w B now A l c b cT (L.set i goneT) 2 (i : Int) bs ((((((((w1.setCell ⟨b, i * 8, none⟩ (.bool false)).setCell ⟨b, i * 8 + 1, none⟩ (.bool false)).setCell ⟨b, i * 8 + 2, none⟩ (.int .i64 0)).setCell ⟨b, i * 8 + 3, none⟩ (.slice none 0 0)).setCell ⟨b, i * 8 + 4, none⟩ (.slice none 0 0)).setCell ⟨b, i * 8 + 5, none⟩ (.bool false)).setCell ⟨b, i * 8 + 6, none⟩ (.bool true)).setCell ⟨b, i * 8 + 7, none⟩ (.string ⟨#[]⟩))) := Lib.hid (H.out.put hi3 goneT (TOk.gone _))
      have n2_0 := HN.out.2.2.1.cell 0
      have n2_1 := HN.out.2.2.1.cell 1
      have n2_2 := HN.out.2.2.1.cell 2
      simp only [List.getElem?_toArray, List.getElem?_cons_zero, List.getElem?_cons_succ] at n2_0 n2_1 n2_2
      go_wp2
      refine bodyPost_ret (v := .tuple #[.agg #[.int .i64 now, .slice A l.length c, .slice (some ⟨b, 0, none⟩) 3 cT], .string ⟨#[]⟩]) ?_ rfl (HN.out.fin ⟨#[]⟩)
      simp [results, Try.results98, go_sem, n2_0, n2_1, n2_2]
  by_cases hk1 : kind = 1
  case neg =>
    have k3b : (kind == 3) = false := by simpa using hk3
    have k2b : (kind == 2) = false := by simpa using hk2
    have k1b : (kind == 1) = false := by simpa using hk1
    have x0_0 := H.out.1.cell 0
    have x0_1 := H.out.1.cell 1
    have x0_2 := H.out.1.cell 2
    have x1_0 := H.out.2.1.cell 0
    have x1_1 := H.out.2.1.cell 1
    have x1_2 := H.out.2.1.cell 2
    have x2_0 := H.out.2.2.1.cell 0
    have x2_1 := H.out.2.2.1.cell 1
    have x2_2 := H.out.2.2.1.cell 2
    simp only [List.getElem?_toArray, List.getElem?_cons_zero, List.getElem?_cons_succ] at x0_0 x0_1 x0_2 x1_0 x1_1 x1_2 x2_0 x2_1 x2_2
    have z2 := fun j => H.out.2.2.1.frozen j
    have z0 := fun j => H.out.1.frozen j
    have y0 := H.out.1.lt
    have y2 := H.out.2.2.1.lt
    have t0 : w1.cell? ⟨b6, 0, none⟩ = some (.bool y.on) := B6.cell 0
    have t1 : w1.cell? ⟨b6, 1, none⟩ = some (.bool y.bad) := B6.cell 1
    have t2 : w1.cell? ⟨b6, 2, none⟩ = some (.int .i64 y.at_) := B6.cell 2
    have t3 : w1.cell? ⟨b6, 3, none⟩ = some (.slice y.ws.1 y.ws.2.2.length y.ws.2.1) := B6.cell 3
    have t4 : w1.cell? ⟨b6, 4, none⟩ = some (.slice y.ns.1 y.ns.2.2.length y.ns.2.1) := B6.cell 4
    have t5 : w1.cell? ⟨b6, 5, none⟩ = some (.bool y.skip) := B6.cell 5
    have t6 : w1.cell? ⟨b6, 6, none⟩ = some (.bool y.gone) := B6.cell 6
    have t7 : w1.cell? ⟨b6, 7, none⟩ = some (.string y.inb) := B6.cell 7
    go_wp2
    refine bodyPost_ret (v := .tuple #[.agg #[.int .i64 now, .slice A l.length c, .slice (some ⟨b, 0, none⟩) 3 cT], .string ⟨#[]⟩]) ?_ rfl (H.out.fin ⟨#[]⟩)
    simp [results, Try.results98, go_sem, x2_0, x2_1, x2_2]
  subst hk1
  by_cases hbz : bs.size ≤ 400
  case neg =>
    have hbi : ¬ (bs.size : Int) ≤ 400 := by omega
    have x0_0 := H.out.1.cell 0
    have x0_1 := H.out.1.cell 1
    have x0_2 := H.out.1.cell 2
    have x1_0 := H.out.2.1.cell 0
    have x1_1 := H.out.2.1.cell 1
    have x1_2 := H.out.2.1.cell 2
    have x2_0 := H.out.2.2.1.cell 0
    have x2_1 := H.out.2.2.1.cell 1
    have x2_2 := H.out.2.2.1.cell 2
    simp only [List.getElem?_toArray, List.getElem?_cons_zero, List.getElem?_cons_succ] at x0_0 x0_1 x0_2 x1_0 x1_1 x1_2 x2_0 x2_1 x2_2
    have z2 := fun j => H.out.2.2.1.frozen j
    have z0 := fun j => H.out.1.frozen j
    have y0 := H.out.1.lt
    have y2 := H.out.2.2.1.lt
    have t0 : w1.cell? ⟨b6, 0, none⟩ = some (.bool y.on) := B6.cell 0
    have t1 : w1.cell? ⟨b6, 1, none⟩ = some (.bool y.bad) := B6.cell 1
    have t2 : w1.cell? ⟨b6, 2, none⟩ = some (.int .i64 y.at_) := B6.cell 2
    have t3 : w1.cell? ⟨b6, 3, none⟩ = some (.slice y.ws.1 y.ws.2.2.length y.ws.2.1) := B6.cell 3
    have t4 : w1.cell? ⟨b6, 4, none⟩ = some (.slice y.ns.1 y.ns.2.2.length y.ns.2.1) := B6.cell 4
    have t5 : w1.cell? ⟨b6, 5, none⟩ = some (.bool y.skip) := B6.cell 5
    have t6 : w1.cell? ⟨b6, 6, none⟩ = some (.bool y.gone) := B6.cell 6
    have t7 : w1.cell? ⟨b6, 7, none⟩ = some (.string y.inb) := B6.cell 7
    go_wp2
    refine bodyPost_ret (v := .tuple #[.agg #[.int .i64 now, .slice A l.length c, .slice (some ⟨b, 0, none⟩) 3 cT], .string ⟨#[]⟩]) ?_ rfl (H.out.fin ⟨#[]⟩)
    simp [results, Try.results98, go_sem, x2_0, x2_1, x2_2]
  have hbi : (bs.size : Int) ≤ 400 := by omega
  have x0_0 := H.out.1.cell 0
  have x0_1 := H.out.1.cell 1
  have x0_2 := H.out.1.cell 2
  have x1_0 := H.out.2.1.cell 0
  have x1_1 := H.out.2.1.cell 1
  have x1_2 := H.out.2.1.cell 2
  have x2_0 := H.out.2.2.1.cell 0
  have x2_1 := H.out.2.2.1.cell 1
  have x2_2 := H.out.2.2.1.cell 2
  simp only [List.getElem?_toArray, List.getElem?_cons_zero, List.getElem?_cons_succ] at x0_0 x0_1 x0_2 x1_0 x1_1 x1_2 x2_0 x2_1 x2_2
  have z2 := fun j => H.out.2.2.1.frozen j
  have z0 := fun j => H.out.1.frozen j
  have y0 := H.out.1.lt
  have y2 := H.out.2.2.1.lt
  have t0 : w1.cell? ⟨b6, 0, none⟩ = some (.bool y.on) := B6.cell 0
  have t1 : w1.cell? ⟨b6, 1, none⟩ = some (.bool y.bad) := B6.cell 1
  have t2 : w1.cell? ⟨b6, 2, none⟩ = some (.int .i64 y.at_) := B6.cell 2
  have t3 : w1.cell? ⟨b6, 3, none⟩ = some (.slice y.ws.1 y.ws.2.2.length y.ws.2.1) := B6.cell 3
  have t4 : w1.cell? ⟨b6, 4, none⟩ = some (.slice y.ns.1 y.ns.2.2.length y.ns.2.1) := B6.cell 4
  have t5 : w1.cell? ⟨b6, 5, none⟩ = some (.bool y.skip) := B6.cell 5
  have t6 : w1.cell? ⟨b6, 6, none⟩ = some (.bool y.gone) := B6.cell 6
  have t7 : w1.cell? ⟨b6, 7, none⟩ = some (.string y.inb) := B6.cell 7
  go_upto_region 9 with fail
  go_wp2_with fail
  refine (l6Feed_any now A l c y.on y.bad y.at_ y.ws.1 y.ws.2.2 y.ws.2.1 y.ns.1 y.ns.2.2 y.ns.2.1 y.skip y.gone y.inb bs _ H.out.2.2.2.1 HTI.out.1 HTI.out.2.1 HTI.out.2.2 hbz).mono ?_
  rintro e w2 ⟨now2, A2, l2, c2, on2, bad2, tt2, A22, ws2, c22, A32, ns2, c32, skip2, gone2, inb2, o2, rfl, hV2, hW2, hN2, hI2, hb2⟩
  have hbw1 : b < w1.heap.size := Nat.lt_trans H.out.2.2.2.2.2.2.2.1 H.out.1.lt
  replace H := Lib.hid (H.out.below hb2)
  have HV2 := Lib.hid hV2
  have HY2 : Hid (TOk w2 ⟨on2, bad2, tt2, (A22, c22, ws2), (A32, c32, ns2), skip2, gone2, inb2⟩) := Lib.hid ⟨hW2, hN2, hI2⟩
  replace HR := Lib.hid (HR.out.below hbw1 hb2)
  clear hV2 hW2 hN2 hb2
  clear x0_0 x0_1 x0_2 x1_0 x1_1 x1_2 x2_0 x2_1 x2_2 z2 z0 y0 y2 t0 t1 t2 t3 t4 t5 t6 t7 B6
  go_upto_region 10 with fail
  have hb7y : w.heap.size + 2 < w2.heap.size := H.out.2.2.1.lt
  have hk := (kF w2 (.cells #[.int .i64 now2, .slice A2 l2.length c2] 32))
  have hkk := bthen hk (kF (w2.alloc (.cells #[.int .i64 now2, .slice A2 l2.length c2] 32)) (.cells #[.bool on2, .bool bad2, .int .i64 tt2, .slice A22 ws2.length c22, .slice A32 ns2.length c32, .bool skip2, .bool gone2, .string inb2] 81))
  have B7 := (Blk.new w2 32 #[.int .i64 now2, .slice A2 l2.length c2]).alloc (.cells #[.bool on2, .bool bad2, .int .i64 tt2, .slice A22 ws2.length c22, .slice A32 ns2.length c32, .bool skip2, .bool gone2, .string inb2] 81)
  have B8 := Blk.new (w2.alloc (.cells #[.int .i64 now2, .slice A2 l2.length c2] 32)) 81 #[.bool on2, .bool bad2, .int .i64 tt2, .slice A22 ws2.length c22, .slice A32 ns2.length c32, .bool skip2, .bool gone2, .string inb2]
  have hbw : b < w2.heap.size := Nat.lt_trans H.out.2.2.2.2.2.2.2.1 H.out.1.lt
  replace HR := Lib.hid (HR.out.below hbw hkk)
  replace H := Lib.hid (H.out.below hkk)
  replace HV2 := Lib.hid (HV2.out.below hkk)
  replace HY2 := Lib.hid (HY2.out.kp (Kp.below hkk))
  rw [World.size_alloc] at B8
  change Code.wp _ _ _ _ ((w2.alloc (.cells #[.int .i64 now2, .slice A2 l2.length c2] 32)).alloc (.cells #[.bool on2, .bool bad2, .int .i64 tt2, .slice A22 ws2.length c22, .slice A32 ns2.length c32, .bool skip2, .bool gone2, .string inb2] 81))
  clear hk hkk hbw
  generalize (w2.alloc (.cells #[.int .i64 now2, .slice A2 l2.length c2] 32)).alloc (.cells #[.bool on2, .bool bad2, .int .i64 tt2, .slice A22 ws2.length c22, .slice A32 ns2.length c32, .bool skip2, .bool gone2, .string inb2] 81) = w3 at *
  have hb7x : w.heap.size + 2 < w2.heap.size := hb7y
  generalize w2.heap.size = b7 at *
  have hb7 : w.heap.size + 2 < b7 := hb7x
  have hbn := H.out.2.2.2.2.2.2.2.1
  have s0 : w3.cell? ⟨b7, 0, none⟩ = some (.int .i64 now2) := B7.cell 0
  have s1 : w3.cell? ⟨b7, 1, none⟩ = some (.slice A2 l2.length c2) := B7.cell 1
  have x0_0 := H.out.1.cell 0
  have x0_1 := H.out.1.cell 1
  have x0_2 := H.out.1.cell 2
  have x1_0 := H.out.2.1.cell 0
  have x1_1 := H.out.2.1.cell 1
  have x1_2 := H.out.2.1.cell 2
  have x2_0 := H.out.2.2.1.cell 0
  have x2_1 := H.out.2.2.1.cell 1
  have x2_2 := H.out.2.2.1.cell 2
  simp only [List.getElem?_toArray, List.getElem?_cons_zero, List.getElem?_cons_succ] at x0_0 x0_1 x0_2 x1_0 x1_1 x1_2 x2_0 x2_1 x2_2
  have z2 := fun j => H.out.2.2.1.frozen j
  have z0 := fun j => H.out.1.frozen j
  have y0 := H.out.1.lt
  have y2 := H.out.2.2.1.lt
  go_upto_region 11 with fail
  clear x0_0 x0_1 x0_2 x1_0 x1_1 x1_2 x2_0 x2_1 x2_2 z2 z0 y0 y2 s0 s1
  have hB0 := H.out.1
  have hT2 := (TsOk.farT (L := [⟨on2, bad2, tt2, (A22, c22, ws2), (A32, c32, ns2), skip2, gone2, inb2⟩]) (fun x hx => by simp at hx; subst hx; exact HY2.out) hB0 (i := 0) (.int .i64 now2)).farT (hB0.set_ 0 (.int .i64 now2)) (i := 1) (.slice A2 l2.length c2)
  have HTY : Hid (TOk ((w3.setCell ⟨w.heap.size, 0, none⟩ (.int .i64 now2)).setCell ⟨w.heap.size, 1, none⟩ (.slice A2 l2.length c2)) ⟨on2, bad2, tt2, (A22, c22, ws2), (A32, c32, ns2), skip2, gone2, inb2⟩) := Lib.hid (hT2 _ (by simp))
  replace H : Hid (DoS w B now2 A2 l2 c2 b cT L 1 (i : Int) bs ((w3.setCell ⟨w.heap.size, 0, none⟩ (.int .i64 now2)).setCell ⟨w.heap.size, 1, none⟩ (.slice A2 l2.length c2))) := Lib.hid (H.out.vers now2 A2 l2 c2 HV2.out)
  have B84 : Blk ((w3.setCell ⟨w.heap.size, 0, none⟩ (.int .i64 now2)).setCell ⟨w.heap.size, 1, none⟩ (.slice A2 l2.length c2)) (b7 + 1) 81 #[.bool on2, .bool bad2, .int .i64 tt2, .slice A22 ws2.length c22, .slice A32 ns2.length c32, .bool skip2, .bool gone2, .string inb2] := (B8.far (p := ⟨w.heap.size, 0, none⟩) (by simp only; omega) _).far (p := ⟨w.heap.size, 1, none⟩) (by simp only; omega) _
  have HR4 : Hid (RdK ((w3.setCell ⟨w.heap.size, 0, none⟩ (.int .i64 now2)).setCell ⟨w.heap.size, 1, none⟩ (.slice A2 l2.length c2)) b (i * 8) y) := Lib.hid ((HR.out.all (fun j => cell_far _ (by omega) _)).all (fun j => cell_far _ (by omega) _))
  clear hT2 hB0 B7 B8 HR HV2 HY2
  change Code.wp _ _ _ _ ((w3.setCell ⟨w.heap.size, 0, none⟩ (.int .i64 now2)).setCell ⟨w.heap.size, 1, none⟩ (.slice A2 l2.length c2))
  generalize ((w3.setCell ⟨w.heap.size, 0, none⟩ (.int .i64 now2)).setCell ⟨w.heap.size, 1, none⟩ (.slice A2 l2.length c2)) = w4 at *
  have t0 : w4.cell? ⟨b7 + 1, 0, none⟩ = some (.bool on2) := B84.cell 0
  have t1 : w4.cell? ⟨b7 + 1, 1, none⟩ = some (.bool bad2) := B84.cell 1
  have t2 : w4.cell? ⟨b7 + 1, 2, none⟩ = some (.int .i64 tt2) := B84.cell 2
  have t3 : w4.cell? ⟨b7 + 1, 3, none⟩ = some (.slice A22 ws2.length c22) := B84.cell 3
  have t4 : w4.cell? ⟨b7 + 1, 4, none⟩ = some (.slice A32 ns2.length c32) := B84.cell 4
  have t5 : w4.cell? ⟨b7 + 1, 5, none⟩ = some (.bool skip2) := B84.cell 5
  have t6 : w4.cell? ⟨b7 + 1, 6, none⟩ = some (.bool gone2) := B84.cell 6
  have t7 : w4.cell? ⟨b7 + 1, 7, none⟩ = some (.string inb2) := B84.cell 7
  obtain ⟨cur, hrow⟩ := H.out.row
  have hzr := fun j => hrow.frozen j
  have hlr := hrow.lt
  clear hrow
  have r0 : w4.cell? ⟨b, i * 8, none⟩ = some (.bool y.on) := HR4.out.1
  have r1 : w4.cell? ⟨b, i * 8 + 1, none⟩ = some (.bool y.bad) := HR4.out.2.1
  have r2 : w4.cell? ⟨b, i * 8 + 2, none⟩ = some (.int .i64 y.at_) := HR4.out.2.2.1
  have r3 : w4.cell? ⟨b, i * 8 + 3, none⟩ = some (.slice y.ws.1 y.ws.2.2.length y.ws.2.1) := HR4.out.2.2.2.1
  have r4 : w4.cell? ⟨b, i * 8 + 4, none⟩ = some (.slice y.ns.1 y.ns.2.2.length y.ns.2.1) := HR4.out.2.2.2.2.1
  have r5 : w4.cell? ⟨b, i * 8 + 5, none⟩ = some (.bool y.skip) := HR4.out.2.2.2.2.2.1
  have r6 : w4.cell? ⟨b, i * 8 + 6, none⟩ = some (.bool y.gone) := HR4.out.2.2.2.2.2.2.1
  have r7 : w4.cell? ⟨b, i * 8 + 7, none⟩ = some (.string y.inb) := HR4.out.2.2.2.2.2.2.2
  have x0_0 := H.out.1.cell 0
  have x0_1 := H.out.1.cell 1
  have x0_2 := H.out.1.cell 2
  have x1_0 := H.out.2.1.cell 0
  have x1_1 := H.out.2.1.cell 1
  have x1_2 := H.out.2.1.cell 2
  have x2_0 := H.out.2.2.1.cell 0
  have x2_1 := H.out.2.2.1.cell 1
  have x2_2 := H.out.2.2.1.cell 2
  simp only [List.getElem?_toArray, List.getElem?_cons_zero, List.getElem?_cons_succ] at x0_0 x0_1 x0_2 x1_0 x1_1 x1_2 x2_0 x2_1 x2_2
  have z2 := fun j => H.out.2.2.1.frozen j
  have z0 := fun j => H.out.1.frozen j
  have y0 := H.out.1.lt
  have y2 := H.out.2.2.1.lt
  go_upto_region 12 with fail
  clear x0_0 x0_1 x0_2 x1_0 x1_1 x1_2 x2_0 x2_1 x2_2 z2 z0 y0 y2 t0 t1 t2 t3 t4 t5 t6 t7 r0 r1 r2 r3 r4 r5 r6 r7 hzr hlr cur
  have HN : Hid (DoS w B now2 A2 l2 c2 b cT (L.set i ⟨on2, bad2, tt2, (A22, c22, ws2), (A32, c32, ns2), skip2, gone2, inb2⟩) 1 (i : Int) bs ((((((((w4.setCell ⟨b, i * 8, none⟩ (.bool on2)).setCell ⟨b, i * 8 + 1, none⟩ (.bool bad2)).setCell ⟨b, i * 8 + 2, none⟩ (.int .i64 tt2)).setCell ⟨b, i * 8 + 3, none⟩ (.slice A22 ws2.length c22)).setCell ⟨b, i * 8 + 4, none⟩ (.slice A32 ns2.length c32)).setCell ⟨b, i * 8 + 5, none⟩ (.bool skip2)).setCell ⟨b, i * 8 + 6, none⟩ (.bool gone2)).setCell ⟨b, i * 8 + 7, none⟩ (.string inb2))) := Lib.hid (H.out.put hi3 ⟨on2, bad2, tt2, (A22, c22, ws2), (A32, c32, ns2), skip2, gone2, inb2⟩ HTY.out)
  clear HTY HR4 B84 H
  change Code.wp _ _ _ _ ((((((((w4.setCell ⟨b, i * 8, none⟩ (.bool on2)).setCell ⟨b, i * 8 + 1, none⟩ (.bool bad2)).setCell ⟨b, i * 8 + 2, none⟩ (.int .i64 tt2)).setCell ⟨b, i * 8 + 3, none⟩ (.slice A22 ws2.length c22)).setCell ⟨b, i * 8 + 4, none⟩ (.slice A32 ns2.length c32)).setCell ⟨b, i * 8 + 5, none⟩ (.bool skip2)).setCell ⟨b, i * 8 + 6, none⟩ (.bool gone2)).setCell ⟨b, i * 8 + 7, none⟩ (.string inb2))
  generalize ((((((((w4.setCell ⟨b, i * 8, none⟩ (.bool on2)).setCell ⟨b, i * 8 + 1, none⟩ (.bool bad2)).setCell ⟨b, i * 8 + 2, none⟩ (.int .i64 tt2)).setCell ⟨b, i * 8 + 3, none⟩ (.slice A22 ws2.length c22)).setCell ⟨b, i * 8 + 4, none⟩ (.slice A32 ns2.length c32)).setCell ⟨b, i * 8 + 5, none⟩ (.bool skip2)).setCell ⟨b, i * 8 + 6, none⟩ (.bool gone2)).setCell ⟨b, i * 8 + 7, none⟩ (.string inb2)) = w5 at *
  have H := HN
  have x0_0 := H.out.1.cell 0
  have x0_1 := H.out.1.cell 1
  have x0_2 := H.out.1.cell 2
  have x1_0 := H.out.2.1.cell 0
  have x1_1 := H.out.2.1.cell 1
  have x1_2 := H.out.2.1.cell 2
  have x2_0 := H.out.2.2.1.cell 0
  have x2_1 := H.out.2.2.1.cell 1
  have x2_2 := H.out.2.2.1.cell 2
  simp only [List.getElem?_toArray, List.getElem?_cons_zero, List.getElem?_cons_succ] at x0_0 x0_1 x0_2 x1_0 x1_1 x1_2 x2_0 x2_1 x2_2
  have z2 := fun j => H.out.2.2.1.frozen j
  have z0 := fun j => H.out.1.frozen j
  have y0 := H.out.1.lt
  have y2 := H.out.2.2.1.lt
  go_wp2
  refine bodyPost_ret (v := .tuple #[.agg #[.int .i64 now2, .slice A2 l2.length c2, .slice (some ⟨b, 0, none⟩) 3 cT], .string o2]) ?_ rfl (H.out.fin o2)
  simp [results, Try.results98, go_sem, x2_0, x2_1, x2_2]
end Go.Proofs.Ytpjkcmmmpgncmaa
