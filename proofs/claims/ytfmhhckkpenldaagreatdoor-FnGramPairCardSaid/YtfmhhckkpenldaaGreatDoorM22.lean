import Derived.Deep.RegionHeld3
import Derived.BigQuiet
import Derived.Test.YtfmhhckkpenldaaGreatDoorM18
import Derived.Test.YtfmhhckkpenldaaGreatDoorL3M
import Derived.Test.YtfmhhckkpenldaaGreatDoorDrC
/- The reference on what one asks: what is done to a key, the rows that are told. -/
namespace Go.Proofs.YtfmhhckkpenldaaGreatDoor
open Go.RowKit
/-- how l4Write leaves -/
def WritePost (w : World) (e : Ending) (w' : World) : Prop := ∃ (x : Wri) (d : Int), e = .returned (.tuple #[.agg #[.string x.1, .int .i64 x.2.1, .bool x.2.2], .int .i64 d]) ∧ x.1.size ≤ maxLen ∧ 0 ≤ d ∧ d ≤ 6 ∧ Below w.heap.size w w'
theorem RK.of_own {W : World} {B c : Nat} {A : Option Addr} {l : List Row} (h : OwnR W B (.slice A l.length c) l) (hf : ∀ x ∈ l, x.1.size ≤ maxLen) : RK W A l c := RK.of h hf
set_option maxRecDepth 100000 in
set_option maxHeartbeats 4000000 in
theorem l4Write_any (A : Option Addr) (l : List Row) (c : Nat) (x : AskV) (w : World) (hn : l.length ≤ 1000) (hR : RK w A l c) (hx : x.2.1.size ≤ maxLen) :
    Calls Tryz.prog 90 #[.slice A l.length c, .agg #[.int .i64 x.1, .string x.2.1, .string x.2.2.1, .int .i64 x.2.2.2]] w (WritePost w) := by
  obtain ⟨ak, aa, ab, an⟩ := x
  simp only at hx ⊢
  have HXS := Lib.hid hx
  have hbE := allocAll_below w [(90, #[.int .i64 ak, .string aa, .string ab, .int .i64 an]), (79, #[.string ⟨#[]⟩, .int .i64 0, .bool false])]
  have H : Hid (SP w [(w.heap.size, 90, #[.int .i64 ak, .string aa, .string ab, .int .i64 an]), (w.heap.size + 1, 79, #[.string ⟨#[]⟩, .int .i64 0, .bool false])] [fun W => RK W A l c] ((allocAll w [(90, #[.int .i64 ak, .string aa, .string ab, .int .i64 an]), (79, #[.string ⟨#[]⟩, .int .i64 0, .bool false])]))) := Lib.hid (SP.add (SP.start w [(90, #[.int .i64 ak, .string aa, .string ab, .int .i64 an]), (79, #[.string ⟨#[]⟩, .int .i64 0, .bool false])]) _ RK.c (RK.c _ _ (Kp.below hbE) hR))
  clear hbE
  go_enter Tryz.func90, Tryz.ntmps90
  clear hR hx
  go_wp2_with fail
  change Calls _ _ _ (allocAll w [(90, #[.int .i64 ak, .string aa, .string ab, .int .i64 an]), (79, #[.string ⟨#[]⟩, .int .i64 0, .bool false])]) _
  generalize (allocAll w [(90, #[.int .i64 ak, .string aa, .string ab, .int .i64 an]), (79, #[.string ⟨#[]⟩, .int .i64 0, .bool false])]) = w0 at *
  refine (specRowsGet_any A l c aa w0 (H.out.get 0 rfl).2.1 (by omega) (H.out.get 0 rfl).sl).mono ?_
  rintro e w1 ⟨rfl, hb1⟩
  replace H := Lib.hid (H.out.kept hb1)
  clear hb1
  generalize getR l aa = gr
  obtain ⟨n, ok⟩ := gr
  simp only
  obtain ⟨x0_0, x0_1, x0_2, x0_3⟩ := Blk.q4 (H.out.blk 0 rfl)
  obtain ⟨x1_0, x1_1, x1_2⟩ := Blk.q3 (H.out.blk 1 rfl)
  obtain ⟨z1_0, z1_1, z1_2⟩ := Blk.z3 (H.out.blk 1 rfl)
  go_wp2_with (go_at_call 46; refine (specNumOk_any _ _).mono ?_; rintro e w9 ⟨rfl, rfl⟩)
  all_goals
    first
    | (refine bodyPost_ret (v := .tuple #[.agg #[.string ⟨#[]⟩, .int .i64 0, .bool false], .int .i64 4]) ?_ rfl ⟨(⟨#[]⟩, 0, false), 4, rfl, Nat.zero_le _, by decide, by decide, (SP.setN (SP.setN (SP.setN (H.out) 1 0 (.string ⟨#[]⟩) rfl) 1 1 (.int .i64 0) rfl) 1 2 (.bool false) rfl).below⟩; (simp [results, Tryz.results90, go_sem, x1_0, x1_1, x1_2]; done))
    | (refine bodyPost_ret (v := .tuple #[.agg #[.string aa, .int .i64 0, .bool true], .int .i64 0]) ?_ rfl ⟨(aa, 0, true), 0, rfl, HXS.out, by decide, by decide, (SP.setN (SP.setN (SP.setN (H.out) 1 0 (.string aa) rfl) 1 1 (.int .i64 0) rfl) 1 2 (.bool true) rfl).below⟩; (simp [results, Tryz.results90, go_sem, x1_0, x1_1, x1_2]; done))
    | (refine bodyPost_ret (v := .tuple #[.agg #[.string ⟨#[]⟩, .int .i64 0, .bool false], .int .i64 6]) ?_ rfl ⟨(⟨#[]⟩, 0, false), 6, rfl, Nat.zero_le _, by decide, by decide, (SP.setN (SP.setN (SP.setN (H.out) 1 0 (.string ⟨#[]⟩) rfl) 1 1 (.int .i64 0) rfl) 1 2 (.bool false) rfl).below⟩; (simp [results, Tryz.results90, go_sem, x1_0, x1_1, x1_2]; done))
    | (refine bodyPost_ret (v := .tuple #[.agg #[.string aa, .int .i64 (wrap64 (n + an)), .bool false], .int .i64 0]) ?_ rfl ⟨(aa, (wrap64 (n + an)), false), 0, rfl, HXS.out, by decide, by decide, (SP.setN (SP.setN (SP.setN (H.out) 1 0 (.string aa) rfl) 1 1 (.int .i64 (wrap64 (n + an))) rfl) 1 2 (.bool false) rfl).below⟩; (simp [results, Tryz.results90, go_sem, x1_0, x1_1, x1_2]; done))
    | (refine bodyPost_ret (v := .tuple #[.agg #[.string aa, .int .i64 an, .bool false], .int .i64 0]) ?_ rfl ⟨(aa, an, false), 0, rfl, HXS.out, by decide, by decide, (SP.setN (SP.setN (SP.setN (H.out) 1 0 (.string aa) rfl) 1 1 (.int .i64 an) rfl) 1 2 (.bool false) rfl).below⟩; (simp [results, Tryz.results90, go_sem, x1_0, x1_1, x1_2]; done))
end Go.Proofs.YtfmhhckkpenldaaGreatDoor
/- The bundle of KpB while things are drawn: memory is new but for the reader's block. -/
namespace Go.Proofs.YtfmhhckkpenldaaGreatDoor
open Go.RowKit
theorem Kp.rd {w0 W W' : World} {A : Option Addr} {bs : List UInt8} {c g q : Nat} (h : Rd w0 W A bs c g q) (hg : W.grownBy W' (some g)) : Kp W W' := Kp.gr h.1 (by decide) hg
/-- boxes that stand, apart from one another, facts, and the reader at q -/
def SD (w0 : World) (A : Option Addr) (bs : List UInt8) (c g q : Nat) (w : World) (L : List (Nat × TypeId × Array Value)) (Ps : List (World → Prop)) (W : World) : Prop :=
  ((∀ b ∈ L, w.heap.size ≤ b.1 ∧ Blk W b.1 b.2.1 b.2.2) ∧ (L.map (·.1)).Nodup) ∧ (∀ P ∈ Ps, KpC P ∧ P W) ∧ Rd w0 W A bs c g q ∧ w.grownBy W (some g) ∧ g < w.heap.size
section
variable {w0 w W W' : World} {A : Option Addr} {bs : List UInt8} {c g q : Nat} {L : List (Nat × TypeId × Array Value)} {Ps : List (World → Prop)}
theorem SD.rd (h : SD w0 A bs c g q w L Ps W) : Rd w0 W A bs c g q := h.2.2.1
theorem SD.gr (h : SD w0 A bs c g q w L Ps W) : w.grownBy W (some g) := h.2.2.2.1
theorem SD.get (h : SD w0 A bs c g q w L Ps W) {P : World → Prop} (k : Nat) (hk : Ps[k]? = some P) : P W := (h.2.1 P (List.mem_of_getElem? hk)).2
theorem SD.blk (h : SD w0 A bs c g q w L Ps W) (i : Nat) {a : Nat} {t : TypeId} {cs : Array Value} (hi : L[i]? = some (a, t, cs)) : Blk W a t cs := (h.1.1 _ (List.mem_of_getElem? hi)).2
theorem SD.ge (h : SD w0 A bs c g q w L Ps W) (i : Nat) {a : Nat} {t : TypeId} {cs : Array Value} (hi : L[i]? = some (a, t, cs)) : w.heap.size ≤ a := (h.1.1 _ (List.mem_of_getElem? hi)).1
theorem SD.nil (hR : Rd w0 w A bs c g q) : SD w0 A bs c g q w [] [] w := ⟨⟨fun b h => absurd h (by simp), by simp⟩, fun P hP => absurd hP (by simp), hR, gr_below (Below.refl _ _), hR.1.lt⟩
theorem SD.kept (h : SD w0 A bs c g q w L Ps W) (hb : Below W.heap.size W W') : SD w0 A bs c g q w L Ps W' :=
  ⟨⟨fun b hm => ⟨(h.1.1 b hm).1, (h.1.1 b hm).2.kept hb⟩, h.1.2⟩, fun P hP => ⟨(h.2.1 P hP).1, (h.2.1 P hP).1 _ _ (Kp.below hb) (h.2.1 P hP).2⟩, h.rd.below hb, gr_trans h.gr (gr_below hb), h.2.2.2.2⟩
theorem SD.draw {q' : Nat} (h : SD w0 A bs c g q w L Ps W) (hR : Rd w0 W' A bs c g q') (hG : W.grownBy W' (some g)) : SD w0 A bs c g q' w L Ps W' :=
  ⟨⟨fun b hm => ⟨(h.1.1 b hm).1, (h.1.1 b hm).2.grown hG (by have := (h.1.1 b hm).1; have := h.2.2.2.2; simp; omega)⟩, h.1.2⟩, fun P hP => ⟨(h.2.1 P hP).1, (h.2.1 P hP).1 _ _ (Kp.rd h.rd hG) (h.2.1 P hP).2⟩, hR, gr_trans h.gr hG, h.2.2.2.2⟩
theorem SD.add (h : SD w0 A bs c g q w L Ps W) (P : World → Prop) (hc : KpC P) (hP : P W) : SD w0 A bs c g q w L (Ps ++ [P]) W := ⟨h.1, fun Q hQ => by
  rcases List.mem_append.1 hQ with hQ | hQ
  · exact h.2.1 Q hQ
  · simp at hQ; subst hQ; exact ⟨hc, hP⟩, h.2.2⟩
theorem SD.alloc (h : SD w0 A bs c g q w L Ps W) (t : TypeId) (cs : Array Value) : SD w0 A bs c g q w (L ++ [(W.heap.size, t, cs)]) Ps (W.alloc (.cells cs t)) := by
  have hb := (Below.refl W.heap.size W).alloc (Nat.le_refl _) (.cells cs t)
  have h1 := h.kept hb
  refine ⟨⟨fun b hm => ?_, ?_⟩, h1.2⟩
  · rcases List.mem_append.1 hm with hm | hm
    · exact h1.1.1 b hm
    · simp at hm; subst hm; exact ⟨h.gr.size, Blk.new W t cs⟩
  · rw [List.map_append, List.nodup_append]
    refine ⟨h.1.2, by simp, fun x hx y hy => ?_⟩
    simp at hy; subst hy
    obtain ⟨b, hm, rfl⟩ := List.mem_map.1 hx
    have := (h.1.1 b hm).2.lt
    omega
theorem SD.boxes (h : SD w0 A bs c g q w L Ps W) : ∀ (cs : List (TypeId × Array Value)), SD w0 A bs c g q w (L ++ boxesFrom W.heap.size cs) Ps (allocAll W cs) := by
  intro cs
  induction cs generalizing L W with
  | nil => simpa [boxesFrom, allocAll] using h
  | cons x r ih =>
    obtain ⟨t, c⟩ := x
    have h1 := ih (h.alloc t c)
    rw [World.size_alloc, List.append_assoc] at h1
    exact h1
theorem SD.start (hR : Rd w0 w A bs c g q) (cs : List (TypeId × Array Value)) : SD w0 A bs c g q w (boxesFrom w.heap.size cs) [] (allocAll w cs) := by
  have h := SD.nil hR
  simpa using h.boxes cs
theorem SD.setAux {a i : Nat} {t : TypeId} {cs : Array Value} {L1 L2 : List (Nat × TypeId × Array Value)} (h : (∀ b ∈ L1 ++ (a, t, cs) :: L2, w.heap.size ≤ b.1 ∧ Blk W b.1 b.2.1 b.2.2) ∧ ((L1 ++ (a, t, cs) :: L2).map (·.1)).Nodup) (u : Value) : (∀ b ∈ L1 ++ (a, t, cs.setIfInBounds i u) :: L2, w.heap.size ≤ b.1 ∧ Blk (W.setCell ⟨a, i, none⟩ u) b.1 b.2.1 b.2.2) ∧ ((L1 ++ (a, t, cs.setIfInBounds i u) :: L2).map (·.1)).Nodup := by
  obtain ⟨h1, h2⟩ := h
  have hm0 : (a, t, cs) ∈ L1 ++ (a, t, cs) :: L2 := by simp
  have hn := h2
  simp only [List.map_append, List.map_cons] at hn
  rw [List.nodup_append, List.nodup_cons] at hn
  obtain ⟨_, ⟨hn1, _⟩, hn2⟩ := hn
  refine ⟨fun b hm => ?_, by simpa using h2⟩
  rcases List.mem_append.1 hm with hm | hm
  · have := h1 b (List.mem_append.2 (.inl hm))
    exact ⟨this.1, this.2.far (p := ⟨a, i, none⟩) (fun e => hn2 b.1 (List.mem_map.2 ⟨b, hm, rfl⟩) a (by simp) e) u⟩
  · rcases List.mem_cons.1 hm with rfl | hm
    · exact ⟨(h1 _ hm0).1, (h1 _ hm0).2.set_ i u⟩
    · have := h1 b (List.mem_append.2 (.inr (List.mem_cons_of_mem _ hm)))
      exact ⟨this.1, this.2.far (p := ⟨a, i, none⟩) (fun e => hn1 (List.mem_map.2 ⟨b, hm, e⟩)) u⟩
theorem SD.setBox {a i j : Nat} {t : TypeId} {cs : Array Value} (h : (∀ b ∈ L, w.heap.size ≤ b.1 ∧ Blk W b.1 b.2.1 b.2.2) ∧ (L.map (·.1)).Nodup) (u : Value) (hj : L[j]? = some (a, t, cs)) : (∀ b ∈ L.set j (a, t, cs.setIfInBounds i u), w.heap.size ≤ b.1 ∧ Blk (W.setCell ⟨a, i, none⟩ u) b.1 b.2.1 b.2.2) ∧ ((L.set j (a, t, cs.setIfInBounds i u)).map (·.1)).Nodup := by
  obtain ⟨hlt, he⟩ := List.getElem?_eq_some_iff.1 hj
  have e1 : L = L.take j ++ (a, t, cs) :: L.drop (j + 1) := by
    rw [← he, ← List.drop_eq_getElem_cons hlt, List.take_append_drop]
  have e2 : L.set j (a, t, cs.setIfInBounds i u) = L.take j ++ (a, t, cs.setIfInBounds i u) :: L.drop (j + 1) := List.set_eq_take_append_cons_drop.trans (if_pos hlt)
  rw [e2]
  rw [e1] at h
  exact SD.setAux h u
theorem SD.setRd {a i j : Nat} {t : TypeId} {cs : Array Value} (h : SD w0 A bs c g q w L Ps W) (u : Value) (hj : L[j]? = some (a, t, cs)) : Rd w0 (W.setCell ⟨a, i, none⟩ u) A bs c g q ∧ w.grownBy (W.setCell ⟨a, i, none⟩ u) (some g) := by
  have h1 := h.ge j hj
  have h2 := h.2.2.2.2
  have h3 := h.rd.2.2.1
  exact ⟨h.rd.farS (p := ⟨a, i, none⟩) (by simp only; omega) (by simp only; omega) u, gr_far h.gr (p := ⟨a, i, none⟩) h1 u⟩
theorem SD.set (h : SD w0 A bs c g q w L Ps W) (j i : Nat) (u : Value) {a : Nat} {t : TypeId} {cs : Array Value} (hj : L[j]? = some (a, t, cs)) (ht : t ∈ boxT) : SD w0 A bs c g q w (L.set j (a, t, cs.setIfInBounds i u)) Ps (W.setCell ⟨a, i, none⟩ u) :=
  ⟨SD.setBox h.1 u hj, fun P hP => ⟨(h.2.1 P hP).1, (h.2.1 P hP).1 _ _ ((Kp.refl W).set (h.blk j hj) ht u) (h.2.1 P hP).2⟩, (h.setRd u hj).1, (h.setRd u hj).2, h.2.2.2.2⟩
theorem SD.setN (h : SD w0 A bs c g q w L Ps W) (j i : Nat) (u : Value) {a : Nat} {t : TypeId} {cs : Array Value} (hj : L[j]? = some (a, t, cs)) : SD w0 A bs c g q w (L.set j (a, t, cs.setIfInBounds i u)) [] (W.setCell ⟨a, i, none⟩ u) :=
  ⟨SD.setBox h.1 u hj, fun P hP => absurd hP (by simp), (h.setRd u hj).1, (h.setRd u hj).2, h.2.2.2.2⟩
end
end Go.Proofs.YtfmhhckkpenldaaGreatDoor
