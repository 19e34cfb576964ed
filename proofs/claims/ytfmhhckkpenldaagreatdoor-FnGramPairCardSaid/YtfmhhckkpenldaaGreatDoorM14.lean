import Derived.Deep.RegionWith
import Derived.Test.YtfmhhckkpenldaaGreatDoorM15
import Derived.Test.YtfmhhckkpenldaaGreatDoorM13
import Derived.Test.YtfmhhckkpenldaaGreatDoorM11
import Derived.Test.YtfmhhckkpenldaaGreatDoorAskX
/- The reference on rows: copies, what is under a key, the sum. -/
namespace Go.Proofs.YtfmhhckkpenldaaGreatDoor
open Go.RowKit
theorem ownR_mk {w : World} {B : Nat} {v : Value} {l : List Row} (h : w.ownsRow B 83 2 v (0 + l.length) ([] ++ l.flatMap encRow)) : OwnR w B v l := by
  unfold OwnR; rwa [Nat.zero_add, List.nil_append] at h
set_option maxRecDepth 100000 in
set_option maxHeartbeats 2000000 in
theorem l1Copy_any (A : Option Addr) (l : List Row) (c : Nat) (w : World) (hn : l.length ≤ 1048576) (hR : Sl encRow 2 w A l) :
    Calls Tryz.prog 123 #[.slice A l.length c] w fun e w' => ∃ A' c', e = .returned (.slice A' l.length c') ∧ OwnR w' w.heap.size (.slice A' l.length c') l ∧ Below w.heap.size w w' := by
  obtain ⟨i0, hi, hz0, hz1, hz2⟩ := info_parts infoRow
  have HI := Lib.hid (⟨hi, hz0, hz1, hz2⟩ : _ ∧ _ ∧ _ ∧ _)
  clear hi hz0 hz1 hz2
  have ho := (own_of_blk (base := w.heap.size) (n := 0) (k := 2) (xs := []) (Blk.new w 83 #[]) (Nat.le_refl _) (Nat.zero_le _) rfl rfl)
  have hb0 := (Below.refl w.heap.size w).alloc (Nat.le_refl _) (.cells #[] 83)
  have HO := Lib.hid ho
  have HS := Lib.hid (hR.below hb0)
  have HB := Lib.hid hb0
  have HBS := Lib.hid (show w.heap.size ≤ (w.alloc (.cells #[] 83)).heap.size by simp)
  have H63 := Lib.hid (show 0 + l.length ≤ maxLen by unfold maxLen; omega)
  have HBY := Lib.hid (show (0 + l.length) * 24 ≤ 140737488355328 by omega)
  clear ho hb0 hR
  go_enter Tryz.func123, Tryz.ntmps123
  go_wp2_with (at_builtin; refine wpList_append_sl (enc := encRow) rfl (.tmp 3) (.tmp 4) 63 rfl w.heap.size 83 i0 _ 2 24 Tryz.underlying63 HI.out.1 HI.out.2.1 HI.out.2.2.1 HI.out.2.2.2 rfl (by decide) (.slice (some ⟨w.heap.size, 0, none⟩) 0 0) 0 [] rfl HO.out encRow_len A l c rfl HS.out (encRow_one l) H63.out HBY.out HBS.out ?_; intro v' w' hown hgrow; have ho : OwnR w' w.heap.size v' l := ownR_mk hown)
  go_ret
  obtain ⟨A', c', rfl, _, _, _⟩ := ho.sl
  exact ⟨A', c', rfl, ho, below_own HB.out hgrow HBS.out (fun k hk => by simp [Value.ownBlock] at hk; omega)⟩
theorem findN_lt {K : ByteArray} {l : List Row} (h : hasN K l = true) : ∃ x, l[findN K l]? = some x ∧ x.1 = K := by
  unfold hasN at h
  cases hx : l[findN K l]? with
  | none => rw [hx] at h; simp at h
  | some x => rw [hx] at h; exact ⟨x, rfl, by simpa using h⟩
theorem kirr {K : ByteArray} : ltB K K = false := by
  cases h : ltB K K
  · rfl
  · exact absurd (show kLt K K from h) (kLt_irrefl K)
/-- in rows in order a key is found where it is -/
theorem hasN_iff {K : ByteArray} : ∀ {l : List Row}, AscR l → (hasN K l = true ↔ ∃ x ∈ l, x.1 = K)
  | [], _ => by simp [hasN]
  | x :: l, h => by
    obtain ⟨h1, h2⟩ := List.pairwise_cons.1 h
    by_cases hlt : ltB x.1 K = true
    · have e : findN K (x :: l) = findN K l + 1 := by rw [findN, if_pos hlt]
      have e2 : hasN K (x :: l) = hasN K l := by unfold hasN; rw [e]; simp
      rw [e2, hasN_iff h2]
      constructor
      · rintro ⟨y, hy, he⟩; exact ⟨y, List.mem_cons_of_mem _ hy, he⟩
      · rintro ⟨y, hy, he⟩
        rcases List.mem_cons.1 hy with rfl | hy
        · rw [he, kirr] at hlt; cases hlt
        · exact ⟨y, hy, he⟩
    · have e : findN K (x :: l) = 0 := by rw [findN, if_neg hlt]
      have e2 : hasN K (x :: l) = decide (x.1 = K) := by unfold hasN; rw [e]; simp
      rw [e2]
      simp only [decide_eq_true_eq]
      constructor
      · intro he; exact ⟨x, List.mem_cons_self, he⟩
      · rintro ⟨y, hy, he⟩
        rcases List.mem_cons.1 hy with rfl | hy
        · exact he
        · have := h1 y hy
          rw [he] at this
          exact absurd this hlt
theorem getR_find {K : ByteArray} {l : List Row} (h : rowsB l = true) {x : Row} (hh : hasN K l = true) (hx : l[findN K l]? = some x) : getR l K = (x.2, true) := by
  obtain ⟨y, hy, he⟩ := findN_lt hh
  rw [hx] at hy
  injection hy with hy
  subst hy
  exact getR_yes h hx he
theorem getR_none {K : ByteArray} {l : List Row} (h : rowsB l = true) (hh : hasN K l = false) : getR l K = (0, false) := by
  have hn : ¬ ∃ x ∈ l, x.1 = K := fun hx => by rw [(hasN_iff (rowsB_iffT.1 h).2.2).2 hx] at hh; cases hh
  unfold getR
  rw [if_pos h]
  cases hf : l.find? (fun x => decide (x.1 = K)) with
  | none => rfl
  | some x =>
    have h1 := List.find?_some hf
    exact absurd ⟨x, List.mem_of_find?_eq_some hf, by simpa using h1⟩ hn
set_option maxRecDepth 100000 in
set_option maxHeartbeats 2000000 in
theorem specRowsGet_any (A : Option Addr) (l : List Row) (c : Nat) (K : ByteArray) (w : World) (hf : ∀ x ∈ l, x.1.size ≤ maxLen) (hn : l.length ≤ 1048576) (hR : Sl encRow 2 w A l) :
    Calls Tryz.prog 96 #[.slice A l.length c, .string K] w fun e w' => e = .returned (.tuple #[.int .i64 (getR l K).1, .bool (getR l K).2]) ∧ Below w.heap.size w w' := by
  have HC := Lib.hid (l1Find_any A l c K w hn hR)
  have HR := Lib.hid hR
  have HF := Lib.hid hf
  have HLE := Lib.hid (findN_le K l)
  clear hR hf
  obtain ⟨f, hf⟩ : ∃ f, f = findN K l := ⟨_, rfl⟩
  obtain ⟨hh, hhh⟩ : ∃ b, b = hasN K l := ⟨_, rfl⟩
  rw [← hf, ← hhh] at HC
  have HFN := Lib.hid hf
  have HHN := Lib.hid hhh
  clear hf hhh
  go_enter Tryz.func96, Tryz.ntmps96
  go_wp2_with fail
  refine HC.out.mono ?_
  rintro e w1 ⟨rfl, hb1⟩
  have HC2 := Lib.hid (specRowsOk_any A l c w1 HF.out hn (HR.out.below hb1))
  have HB1 := Lib.hid hb1
  clear HC hb1
  go_wp2_with fail
  refine HC2.out.mono ?_
  rintro e w2 ⟨rfl, hb2⟩
  have HS := Lib.hid (HR.out.below (bthen HB1.out hb2))
  have HBE := Lib.hid (bthen HB1.out hb2)
  clear HC2 hb2
  cases hok : rowsB l
  · have HG := Lib.hid (getR_bad (key := K) hok)
    clear hok
    go_wp2
    go_ret2
    exact ⟨by rw [HG.out]; rfl, HBE.out⟩
  · cases hh
    · have HG := Lib.hid (getR_none hok HHN.out.symm)
      clear hok
      go_wp2
      go_ret2
      exact ⟨by rw [HG.out]; rfl, HBE.out⟩
    · obtain ⟨x, hx, he⟩ := findN_lt HHN.out.symm
      have HG := Lib.hid (getR_find hok HHN.out.symm hx)
      rw [← HFN.out] at hx
      obtain ⟨hlt, hxe⟩ := List.getElem?_eq_some_iff.1 hx
      obtain ⟨b, o, rfl, hbl, c0, c1⟩ := Sl.at2 HS.out hlt
      rw [hxe] at c0 c1
      have hki : (f : Int) < (l.length : Int) := by omega
      have hki0 : (0 : Int) ≤ (f : Int) := by omega
      clear hok hx hxe he
      go_wp2
      go_ret2
      exact ⟨by rw [HG.out]; rfl, HBE.out⟩
end Go.Proofs.YtfmhhckkpenldaaGreatDoor
/- Slices whose elements' type is known, and boxes: a store to a box leaves such slices alone. -/
namespace Go.Proofs.YtfmhhckkpenldaaGreatDoor
open Go.RowKit
/-- no slice's elements are of these types: they are boxes -/
def boxT : List TypeId := [36, 39, 41, 44, 90, 54]
def Kp (W W' : World) : Prop := W.heap.size ≤ W'.heap.size ∧ ∀ b cs t, Blk W b t cs → t ∉ boxT → Blk W' b t cs
theorem Kp.refl (W : World) : Kp W W := ⟨Nat.le_refl _, fun _ _ _ h _ => h⟩
theorem Kp.trans {W W1 W2 : World} (h : Kp W W1) (h2 : Kp W1 W2) : Kp W W2 := ⟨Nat.le_trans h.1 h2.1, fun b cs t hb ht => h2.2 b cs t (h.2 b cs t hb ht) ht⟩
theorem Kp.below {W W1 : World} (h : Below W.heap.size W W1) : Kp W W1 := ⟨h.size, fun _ _ _ hb _ => hb.kept h⟩
theorem Kp.then {W W1 W2 : World} (h : Kp W W1) (h2 : Below W1.heap.size W1 W2) : Kp W W2 := h.trans (Kp.below h2)
theorem Kp.set {W W' : World} {g i : Nat} {t : TypeId} {cs : Array Value} (h : Kp W W') (hB : Blk W' g t cs) (ht : t ∈ boxT) (u : Value) : Kp W (W'.setCell ⟨g, i, none⟩ u) := by
  refine ⟨by rw [World.size_setCell]; exact h.1, fun b cs2 t2 hb ht2 => (h.2 b cs2 t2 hb ht2).far (p := ⟨g, i, none⟩) ?_ u⟩
  intro e
  have h1 := h.2 b cs2 t2 hb ht2
  simp only at e
  subst e
  unfold Blk at h1 hB
  rw [h1] at hB
  injection hB with hB
  injection hB with e1 e2
  exact ht2 (e2 ▸ ht)
theorem Kp.gr {W W' : World} {g : Nat} {t : TypeId} {cs : Array Value} (hB : Blk W g t cs) (ht : t ∈ boxT) (hg : W.grownBy W' (some g)) : Kp W W' := by
  refine ⟨hg.size, fun b cs2 t2 hb ht2 => hb.grown hg ?_⟩
  intro e
  injection e with e
  subst e
  unfold Blk at hb hB
  rw [hb] at hB
  injection hB with hB
  injection hB with e1 e2
  exact ht2 (e2 ▸ ht)
theorem blk_ne {W : World} {g b : Nat} {t t2 : TypeId} {cs cs2 : Array Value} (h : Blk W g t cs) (h2 : Blk W b t2 cs2) (ht : t ≠ t2) : g ≠ b := by
  intro e; subst e
  unfold Blk at h h2
  rw [h] at h2
  injection h2 with h2
  injection h2 with e1 e2
  exact ht e2
/-- a slice that reads as a list, its elements' type known -/
def SlK {α : Type} (enc : α → List Value) (k : Nat) (t : TypeId) (w : World) (A : Option Addr) (l : List α) : Prop :=
  0 < l.length → ∃ b o cs, A = some ⟨b, o, none⟩ ∧ Blk w b t cs ∧ ∀ i j x, l[i]? = some x → j < k → cs[o + i * k + j]? = (enc x)[j]?
section
variable {α : Type} {enc : α → List Value} {k : Nat} {t : TypeId} {w w' : World} {A : Option Addr} {l : List α}
theorem SlK.sl (h : SlK enc k t w A l) : Sl enc k w A l := fun hl => by
  obtain ⟨b, o, cs, e, hb, hc⟩ := h hl
  exact ⟨b, o, e, hb.lt, fun i j x hx hj => (hb.cell _).trans (hc i j x hx hj)⟩
theorem SlK.kp (h : SlK enc k t w A l) (hk : Kp w w') (ht : t ∉ boxT) : SlK enc k t w' A l := fun hl => by
  obtain ⟨b, o, cs, e, hb, hc⟩ := h hl
  exact ⟨b, o, cs, e, hk.2 _ _ _ hb ht, hc⟩
theorem SlK.nil (w : World) (A : Option Addr) : SlK enc k t w A [] := fun h => absurd h (by simp)
theorem SlK.of_own {B n c : Nat} (henc : ∀ x, (enc x).length = k) (h : w.ownsRow B t k (.slice A n c) l.length (l.flatMap enc)) : SlK enc k t w A l := fun hl => by
  rcases h.2 with ⟨e, h0⟩ | ⟨g, cap, cur, e, hb, hh, hn, hm, hs, ht⟩
  · omega
  · injection e with e1 e2 e3
    refine ⟨g, 0, cur, e1, hh, fun i j x hx hj => ?_⟩
    have hi : i < l.length := (List.getElem?_eq_some_iff.1 hx).1
    have hij : i * k + j < l.length * k := by
      have : (i + 1) * k ≤ l.length * k := Nat.mul_le_mul_right _ hi
      rw [Nat.add_mul] at this; omega
    rw [Nat.zero_add]
    have h1 : cur[i * k + j]? = (cur.toList.take (l.length * k))[i * k + j]? := by rw [List.getElem?_take, if_pos hij]; simp
    rw [h1, ht]
    exact flat_get henc l i j x hx hj
end
/-- the versions of a store -/
def VK (W : World) (now : Int) (A : Option Addr) (l : List Ver) : Prop := SlK encVer 4 81 W A l ∧ FitsV l ∧ l.length ≤ 60 ∧ 0 ≤ now ∧ now ≤ 40
/-- what one did -/
def WK (W : World) (A : Option Addr) (ws : List Wri) : Prop := SlK encWri 3 79 W A ws ∧ FitsW ws ∧ ws.length ≤ 8
/-- rows -/
def RK (W : World) (A : Option Addr) (rs : List Row) (c : Nat) : Prop := SlK encRow 2 83 W A rs ∧ (∀ x ∈ rs, x.1.size ≤ maxLen) ∧ rs.length ≤ c ∧ c ≤ maxLen
/-- what one may ask by names -/
def NK (W : World) (A : Option Addr) (ns : List Nm) : Prop := SlK encNm 5 93 W A ns ∧ (∀ x ∈ ns, x.1.size ≤ 10 ∧ x.2.2.1.size ≤ maxLen ∧ x.2.2.2.1.size ≤ maxLen) ∧ ns.length ≤ 4
theorem VK.kp {W W' : World} {now : Int} {A : Option Addr} {l : List Ver} (h : VK W now A l) (hk : Kp W W') : VK W' now A l := ⟨h.1.kp hk (by decide), h.2⟩
theorem WK.kp {W W' : World} {A : Option Addr} {l : List Wri} (h : WK W A l) (hk : Kp W W') : WK W' A l := ⟨h.1.kp hk (by decide), h.2⟩
theorem RK.kp {W W' : World} {A : Option Addr} {l : List Row} {c : Nat} (h : RK W A l c) (hk : Kp W W') : RK W' A l c := ⟨h.1.kp hk (by decide), h.2⟩
theorem NK.kp {W W' : World} {A : Option Addr} {l : List Nm} (h : NK W A l) (hk : Kp W W') : NK W' A l := ⟨h.1.kp hk (by decide), h.2⟩
theorem VK.sl {W : World} {now : Int} {A : Option Addr} {l : List Ver} (h : VK W now A l) : Sl encVer 4 W A l := h.1.sl
theorem WK.sl {W : World} {A : Option Addr} {l : List Wri} (h : WK W A l) : Sl encWri 3 W A l := h.1.sl
theorem RK.sl {W : World} {A : Option Addr} {l : List Row} {c : Nat} (h : RK W A l c) : Sl encRow 2 W A l := h.1.sl
theorem NK.sl {W : World} {A : Option Addr} {l : List Nm} (h : NK W A l) : Sl encNm 5 W A l := h.1.sl
theorem VK.of {W : World} {B c : Nat} {now : Int} {A : Option Addr} {l : List Ver} (h : OwnV W B (.slice A l.length c) l) (hf : FitsV l) (hl : l.length ≤ 60) (h0 : 0 ≤ now) (h1 : now ≤ 40) : VK W now A l := ⟨SlK.of_own encVer_len h, hf, hl, h0, h1⟩
theorem WK.of {W : World} {B c : Nat} {A : Option Addr} {l : List Wri} (h : OwnW W B (.slice A l.length c) l) (hf : FitsW l) (hl : l.length ≤ 8) : WK W A l := ⟨SlK.of_own encWri_len h, hf, hl⟩
theorem RK.of {W : World} {B c : Nat} {A : Option Addr} {l : List Row} (h : OwnR W B (.slice A l.length c) l) (hf : ∀ x ∈ l, x.1.size ≤ maxLen) : RK W A l c := by
  obtain ⟨A', c', e, h1, h2, _⟩ := h.sl
  injection e with e1 e2 e3
  subst e3
  exact ⟨SlK.of_own encRow_len h, hf, h1, h2⟩
/-- boxes that stand, apart from one another, in new memory -/
def Sts (w : World) (L : List (Nat × TypeId × Array Value)) (W : World) : Prop :=
  (∀ b ∈ L, w.heap.size ≤ b.1 ∧ Blk W b.1 b.2.1 b.2.2) ∧ (L.map (·.1)).Nodup ∧ Below w.heap.size w W
section
variable {w W W' : World} {L L' : List (Nat × TypeId × Array Value)}
theorem Sts.start (w : World) : Sts w [] w := ⟨fun b h => absurd h (by simp), by simp, Below.refl _ _⟩
theorem Sts.kept (h : Sts w L W) (hb : Below W.heap.size W W') : Sts w L W' := ⟨fun b hm => ⟨(h.1 b hm).1, (h.1 b hm).2.kept hb⟩, h.2.1, bthen h.2.2 hb⟩
theorem Sts.blk (h : Sts w L W) (i : Nat) {a : Nat} {t : TypeId} {cs : Array Value} (hi : L[i]? = some (a, t, cs)) : Blk W a t cs := (h.1 _ (List.mem_of_getElem? hi)).2
theorem Sts.alloc (h : Sts w L W) (t : TypeId) (cs : Array Value) : Sts w (L ++ [(W.heap.size, t, cs)]) (W.alloc (.cells cs t)) := by
  have hb := (Below.refl W.heap.size W).alloc (Nat.le_refl _) (.cells cs t)
  refine ⟨fun b hm => ?_, ?_, bthen h.2.2 hb⟩
  · rcases List.mem_append.1 hm with hm | hm
    · exact ⟨(h.1 b hm).1, (h.1 b hm).2.kept hb⟩
    · simp at hm; subst hm; exact ⟨h.2.2.size, Blk.new W t cs⟩
  · rw [List.map_append, List.nodup_append]
    refine ⟨h.2.1, by simp, fun x hx y hy => ?_⟩
    simp at hy; subst hy
    obtain ⟨b, hm, rfl⟩ := List.mem_map.1 hx
    have := (h.1 b hm).2.lt
    omega
theorem Sts.setAux {w W : World} {a i : Nat} {t : TypeId} {cs : Array Value} {L1 L2 : List (Nat × TypeId × Array Value)} (h : Sts w (L1 ++ (a, t, cs) :: L2) W) (u : Value) : Sts w (L1 ++ (a, t, cs.setIfInBounds i u) :: L2) (W.setCell ⟨a, i, none⟩ u) := by
  obtain ⟨h1, h2, h3⟩ := h
  have hm0 : (a, t, cs) ∈ L1 ++ (a, t, cs) :: L2 := by simp
  have hn := h2
  simp only [List.map_append, List.map_cons] at hn
  rw [List.nodup_append, List.nodup_cons] at hn
  obtain ⟨_, ⟨hn1, _⟩, hn2⟩ := hn
  refine ⟨fun b hm => ?_, by simpa using h2, h3.setCell (h1 _ hm0).1 _⟩
  rcases List.mem_append.1 hm with hm | hm
  · have := h1 b (List.mem_append.2 (.inl hm))
    exact ⟨this.1, this.2.far (p := ⟨a, i, none⟩) (fun e => hn2 b.1 (List.mem_map.2 ⟨b, hm, rfl⟩) a (by simp) e) u⟩
  · rcases List.mem_cons.1 hm with rfl | hm
    · exact ⟨(h1 _ hm0).1, (h1 _ hm0).2.set_ i u⟩
    · have := h1 b (List.mem_append.2 (.inr (List.mem_cons_of_mem _ hm)))
      exact ⟨this.1, this.2.far (p := ⟨a, i, none⟩) (fun e => hn1 (List.mem_map.2 ⟨b, hm, e⟩)) u⟩
/-- the j-th box: its i-th cell is stored -/
theorem Sts.set (h : Sts w L W) (j i : Nat) (u : Value) {a : Nat} {t : TypeId} {cs : Array Value} (hj : L[j]? = some (a, t, cs)) : Sts w (L.set j (a, t, cs.setIfInBounds i u)) (W.setCell ⟨a, i, none⟩ u) := by
  obtain ⟨hlt, he⟩ := List.getElem?_eq_some_iff.1 hj
  have e1 : L = L.take j ++ (a, t, cs) :: L.drop (j + 1) := by
    rw [← he, ← List.drop_eq_getElem_cons hlt, List.take_append_drop]
  have e2 : L.set j (a, t, cs.setIfInBounds i u) = L.take j ++ (a, t, cs.setIfInBounds i u) :: L.drop (j + 1) := List.set_eq_take_append_cons_drop.trans (if_pos hlt)
  rw [e2]
  rw [e1] at h
  exact h.setAux u
end
end Go.Proofs.YtfmhhckkpenldaaGreatDoor
