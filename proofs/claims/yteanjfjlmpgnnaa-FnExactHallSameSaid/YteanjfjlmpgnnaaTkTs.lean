/- The laws' copies of rows of those who talk, and of halls. -/
import Derived.Test.YteanjfjlmpgnnaaTkTo
import Derived.Test.YteanjfjlmpgnnaaVrSz
namespace Go.Proofs.Yteanjfjlmpgnnaa
open Go.RowKit
/-- rows of those who talk, in memory from B on -/
def OwnT (W : World) (B : Nat) (A : Option Addr) (ts : List Tk) : Prop :=
  SlT W A ts ∧ (∀ a, A = some a → B ≤ a.block) ∧ ∀ t ∈ ts, (∀ a, t.ws.1 = some a → B ≤ a.block) ∧ (∀ a, t.ns.1 = some a → B ≤ a.block)
theorem Sl.far {α : Type} {enc : α → List Value} {k B : Nat} {w : World} {A : Option Addr} {l : List α} (h : Sl enc k w A l) (hA : ∀ a, A = some a → B ≤ a.block) {p : Addr} (hp : p.block < B) (u : Value) : Sl enc k (w.setCell p u) A l := by
  intro hl
  obtain ⟨b, o, e, hlt, hc⟩ := h hl
  have hB := hA _ e
  simp only at hB
  exact ⟨b, o, e, by simpa using hlt, fun i j x hx hj => (World.cell?_of_block (a := ⟨b, o + i * k + j, none⟩) (Below.heap_setCell w p u b (by simp; omega))).trans (hc i j x hx hj)⟩
theorem OwnT.set_ {W : World} {B : Nat} {A : Option Addr} {ts : List Tk} (h : OwnT W B A ts) {p : Addr} (hp : p.block < B) (u : Value) : OwnT (W.setCell p u) B A ts :=
  ⟨⟨h.1.1.far h.2.1 hp u, fun t ht => ⟨(h.1.2 t ht).1.far (h.2.2 t ht).1 hp u, (h.1.2 t ht).2.far (h.2.2 t ht).2 hp u⟩⟩, h.2⟩
theorem OwnT.kept {W W' : World} {B : Nat} {A : Option Addr} {ts : List Tk} (h : OwnT W B A ts) (hb : Below W.heap.size W W') : OwnT W' B A ts := ⟨h.1.below hb, h.2⟩
theorem OwnT.le {W : World} {B B2 : Nat} {A : Option Addr} {ts : List Tk} (h : OwnT W B A ts) (hb : B2 ≤ B) : OwnT W B2 A ts :=
  ⟨h.1, fun a ha => Nat.le_trans hb (h.2.1 a ha), fun t ht => ⟨fun a ha => Nat.le_trans hb ((h.2.2 t ht).1 a ha), fun a ha => Nat.le_trans hb ((h.2.2 t ht).2 a ha)⟩⟩
theorem rows_push {α : Type} {enc : α → List Value} {n : Nat} {cs cs' : Array Value} {qs : List α} {r : α} (h : Rws enc n cs qs qs.length) (hold : ∀ p, p < qs.length * n → cs'[p]? = cs[p]?) (hnew : ∀ j, j < n → cs'[qs.length * n + j]? = (enc r)[j]?) : Rws enc n cs' (qs ++ [r]) (qs.length + 1) := by
  intro i j y hy hi hj
  by_cases hlt : i < qs.length
  · have hp : i * n + j < qs.length * n := by
      have : (i + 1) * n ≤ qs.length * n := Nat.mul_le_mul_right _ hlt
      rw [Nat.add_mul] at this; omega
    rw [hold _ hp]
    exact h i j y (by rw [List.getElem?_append_left hlt] at hy; exact hy) hlt hj
  · obtain rfl : i = qs.length := by omega
    rw [List.getElem?_append_right (Nat.le_refl _), Nat.sub_self] at hy
    simp at hy
    subst hy
    exact hnew j hj
theorem set8_old {cs : Array Value} {m p : Nat} (v0 v1 v2 v3 v4 v5 v6 v7 : Value) (hp : p < m * 8) : ((((((((cs.setIfInBounds (m * 8) v0).setIfInBounds (m * 8 + 1) v1).setIfInBounds (m * 8 + 2) v2).setIfInBounds (m * 8 + 3) v3).setIfInBounds (m * 8 + 4) v4).setIfInBounds (m * 8 + 5) v5).setIfInBounds (m * 8 + 6) v6).setIfInBounds (m * 8 + 7) v7)[p]? = cs[p]? := by
  rw [Array.getElem?_setIfInBounds, Array.getElem?_setIfInBounds, Array.getElem?_setIfInBounds, Array.getElem?_setIfInBounds, Array.getElem?_setIfInBounds, Array.getElem?_setIfInBounds, Array.getElem?_setIfInBounds, Array.getElem?_setIfInBounds, if_neg (by omega), if_neg (by omega), if_neg (by omega), if_neg (by omega), if_neg (by omega), if_neg (by omega), if_neg (by omega), if_neg (by omega)]
theorem set8_new {cs : Array Value} {m N : Nat} (hs : cs.size = N * 8) (hm : m < N) (v0 v1 v2 v3 v4 v5 v6 v7 : Value) : ∀ j, j < 8 → ((((((((cs.setIfInBounds (m * 8) v0).setIfInBounds (m * 8 + 1) v1).setIfInBounds (m * 8 + 2) v2).setIfInBounds (m * 8 + 3) v3).setIfInBounds (m * 8 + 4) v4).setIfInBounds (m * 8 + 5) v5).setIfInBounds (m * 8 + 6) v6).setIfInBounds (m * 8 + 7) v7)[m * 8 + j]? = ([v0, v1, v2, v3, v4, v5, v6, v7] : List Value)[j]? := by
  intro j hj
  rw [Array.getElem?_setIfInBounds, Array.getElem?_setIfInBounds, Array.getElem?_setIfInBounds, Array.getElem?_setIfInBounds, Array.getElem?_setIfInBounds, Array.getElem?_setIfInBounds, Array.getElem?_setIfInBounds, Array.getElem?_setIfInBounds]
  match j, hj with
  | 0, _ => rw [if_neg (by omega), if_neg (by omega), if_neg (by omega), if_neg (by omega), if_neg (by omega), if_neg (by omega), if_neg (by omega), if_pos (by omega), if_pos (by (try simp only [Array.size_setIfInBounds]); omega)]; rfl
  | 1, _ => rw [if_neg (by omega), if_neg (by omega), if_neg (by omega), if_neg (by omega), if_neg (by omega), if_neg (by omega), if_pos (by omega), if_pos (by (try simp only [Array.size_setIfInBounds]); omega)]; rfl
  | 2, _ => rw [if_neg (by omega), if_neg (by omega), if_neg (by omega), if_neg (by omega), if_neg (by omega), if_pos (by omega), if_pos (by (try simp only [Array.size_setIfInBounds]); omega)]; rfl
  | 3, _ => rw [if_neg (by omega), if_neg (by omega), if_neg (by omega), if_neg (by omega), if_pos (by omega), if_pos (by (try simp only [Array.size_setIfInBounds]); omega)]; rfl
  | 4, _ => rw [if_neg (by omega), if_neg (by omega), if_neg (by omega), if_pos (by omega), if_pos (by (try simp only [Array.size_setIfInBounds]); omega)]; rfl
  | 5, _ => rw [if_neg (by omega), if_neg (by omega), if_pos (by omega), if_pos (by (try simp only [Array.size_setIfInBounds]); omega)]; rfl
  | 6, _ => rw [if_neg (by omega), if_pos (by omega), if_pos (by (try simp only [Array.size_setIfInBounds]); omega)]; rfl
  | 7, _ => rw [if_pos (by omega), if_pos (by (try simp only [Array.size_setIfInBounds]); omega)]; rfl
theorem infoTk : (Try.prog.info? 86).map (fun i => (i.zero, i.size, i.bytes)) = some (some (.agg #[.bool false, .bool false, .int .i64 0, .slice none 0 0, .slice none 0 0, .bool false, .bool false, .string ⟨#[]⟩]), 8, 88) := by kernel_rfl
set_option maxRecDepth 100000 in
set_option maxHeartbeats 2000000 in
theorem toTalkS_any (A : Option Addr) (ts : List Tk) (c : Nat) (w : World) (hn : ts.length ≤ 1048576) (hn2 : ∀ t ∈ ts, t.ws.2.2.length ≤ 1048576 ∧ t.ns.2.2.length ≤ 1048576) (hR : SlT w A ts) :
    Calls Try.prog 49 #[.slice A ts.length c] w fun e w' => ∃ A' c' qs, e = .returned (.slice A' qs.length c') ∧ tkS qs = tkS ts ∧ OwnT w' w.heap.size A' qs ∧ Below w.heap.size w w' := by
  obtain ⟨i0, hi, hz0, hz1, hz2⟩ := info_parts infoTk
  have hmk := fun W => run_make_rowN (P := Try.prog) 33 86 i0 _ Try.underlying33 hi hz0 .i64 .i64 ts.length ts.length (Nat.le_refl _) (by rw [hz2]; omega) (by omega) W
  rw [hz1] at hmk
  go_enter Try.func49, Try.ntmps49
  go_wp2
  go_loopw [4] (fun i wr => ∃ (k : Nat) (cs : Array Value) (qs : List Tk), k ≤ ts.length ∧ i = .int .i64 k ∧ Blk wr w.heap.size 86 cs ∧ Hid (cs.size = ts.length * 8 ∧ qs.length = k ∧ Rws encTk 8 cs qs qs.length ∧ tkS qs = (tkS ts).take k) ∧ Hid (∀ t ∈ qs, (Sl encWri 3 wr t.ws.1 t.ws.2.2 ∧ Sl encNm 5 wr t.ns.1 t.ns.2.2) ∧ (∀ a, t.ws.1 = some a → w.heap.size + 1 ≤ a.block) ∧ (∀ a, t.ns.1 = some a → w.heap.size + 1 ≤ a.block)) ∧ Below w.heap.size w wr) (fun i _ => ts.length - (intOf i).toNat)
  case atStart => exact ⟨0, _, [], by omega, rfl, Blk.new _ _ _, Lib.hid ⟨by simp [size_madeCells], rfl, Rws.zero, by simp [tkS]⟩, Lib.hid (by simp), (Below.refl _ _).alloc (Nat.le_refl _) _⟩
  case round =>
    obtain ⟨k, cs, qs, hk, rfl, hB, HC, HQ, hb⟩ := hrel
    by_cases hlt : k < ts.length
    · have hRw := hR.below hb
      obtain ⟨b, o, rfl, hbl, c0, c1, c2, c3, c4, c5, c6, c7⟩ := Sl.at8 hRw.1 hlt
      obtain ⟨hs1_, hs2_⟩ := hRw.2 ts[k] (by simp)
      obtain ⟨hl1, hl2⟩ := hn2 ts[k] (by simp)
      have HX := Lib.hid (show (tkS ts).take (k + 1) = (tkS ts).take k ++ [tkC ts[k]] by
        rw [List.take_succ_eq_append_getElem (by rw [tkS_len]; exact hlt)]; simp [tkS])
      have hlt' := hB.lt
      generalize ts[k] = x at *
      obtain ⟨on, bad, at_, ⟨Aw, cw, ws⟩, ⟨An, cn, ns⟩, skip, gone, inb⟩ := x
      simp only at c0 c1 c2 c3 c4 c5 c6 c7 hs1_ hs2_ hl1 hl2
      have HT := Lib.hid (toTalk_any on bad at_ Aw cw ws An cn ns skip gone inb wr hl1 hl2 hs1_ hs2_)
      clear hRw hs1_ hs2_ hR hn2 hl1 hl2
      have hs0 : k * 8 < cs.size := by have := HC.out.1; omega
      have hs1 : k * 8 + 1 < cs.size := by have := HC.out.1; omega
      have hs2 : k * 8 + 2 < cs.size := by have := HC.out.1; omega
      have hs3 : k * 8 + 3 < cs.size := by have := HC.out.1; omega
      have hs4 : k * 8 + 4 < cs.size := by have := HC.out.1; omega
      have hs5 : k * 8 + 5 < cs.size := by have := HC.out.1; omega
      have hs6 : k * 8 + 6 < cs.size := by have := HC.out.1; omega
      have hs7 : k * 8 + 7 < cs.size := by have := HC.out.1; omega
      go_wp2_with fail
      refine HT.out.mono ?_
      rintro e w2 ⟨Ao, co, Ap, cp, rfl, how, hon, hb2⟩
      have hB2 := hB.below hb2 hlt'
      have hbw := bthen hb hb2
      have HOW := Lib.hid how
      have HON := Lib.hid hon
      have HB2 := Lib.hid hb2
      have z0 := hB2.frozen (k * 8); have y0 := hB2.at_ hs0; have z1 := hB2.frozen (k * 8 + 1); have y1 := hB2.at_ hs1; have z2 := hB2.frozen (k * 8 + 2); have y2 := hB2.at_ hs2; have z3 := hB2.frozen (k * 8 + 3); have y3 := hB2.at_ hs3; have z4 := hB2.frozen (k * 8 + 4); have y4 := hB2.at_ hs4; have z5 := hB2.frozen (k * 8 + 5); have y5 := hB2.at_ hs5; have z6 := hB2.frozen (k * 8 + 6); have y6 := hB2.at_ hs6; have z7 := hB2.frozen (k * 8 + 7); have y7 := hB2.at_ hs7
      clear HT how hon hb2 hb c0 c1 c2 c3 c4 c5 c6 c7
      go_wp2
      go_roundw
      case rel =>
        have hwr := hB.lt
        have hA1 : ∀ a, Ao = some a → w.heap.size + 1 ≤ a.block := by
          rintro a rfl
          have := (World.ownsRow.lt HOW.out a.block rfl).1
          omega
        have hA2 : ∀ a, Ap = some a → w.heap.size + 1 ≤ a.block := by
          rintro a rfl
          have := (World.ownsRow.lt HON.out a.block rfl).1
          omega
        have hall : ∀ t ∈ qs ++ [(⟨on, bad, at_, (Ao, co, ws), (Ap, cp, ns), skip, gone, inb⟩ : Tk)], (Sl encWri 3 w2 t.ws.1 t.ws.2.2 ∧ Sl encNm 5 w2 t.ns.1 t.ns.2.2) ∧ (∀ a, t.ws.1 = some a → w.heap.size + 1 ≤ a.block) ∧ (∀ a, t.ns.1 = some a → w.heap.size + 1 ≤ a.block) := by
          intro t ht
          rcases List.mem_append.1 ht with ht | ht
          · obtain ⟨⟨h1, h2⟩, h3⟩ := HQ.out t ht
            exact ⟨⟨h1.below HB2.out, h2.below HB2.out⟩, h3⟩
          · simp at ht
            subst ht
            exact ⟨⟨HOW.out.reads, HON.out.reads⟩, hA1, hA2⟩
        refine ⟨k + 1, _, qs ++ [⟨on, bad, at_, (Ao, co, ws), (Ap, cp, ns), skip, gone, inb⟩], by omega, by go_num, ((((((((hB2.set_ _ _).set_ _ _).set_ _ _).set_ _ _).set_ _ _).set_ _ _).set_ _ _).set_ _ _), Lib.hid ⟨by simp [HC.out.1], by simp [HC.out.2.1], ?_, ?_⟩, Lib.hid ?_, ((((((((hbw.setCell (Nat.le_refl _) _).setCell (Nat.le_refl _) _).setCell (Nat.le_refl _) _).setCell (Nat.le_refl _) _).setCell (Nat.le_refl _) _).setCell (Nat.le_refl _) _).setCell (Nat.le_refl _) _).setCell (Nat.le_refl _) _)⟩
        · obtain ⟨h1, rfl, h3, _⟩ := HC.out
          rw [List.length_append]
          exact rows_push h3 (fun p hp => set8_old _ _ _ _ _ _ _ _ hp) (set8_new h1 hlt _ _ _ _ _ _ _ _)
        · rw [HX.out, ← HC.out.2.2.2]; simp [tkS, tkC]
        · intro t ht
          obtain ⟨⟨h1, h2⟩, h3, h4⟩ := hall t ht
          exact ⟨⟨((((((((h1.far h3 (by simp) _).far h3 (by simp) _).far h3 (by simp) _).far h3 (by simp) _).far h3 (by simp) _).far h3 (by simp) _).far h3 (by simp) _).far h3 (by simp) _), ((((((((h2.far h4 (by simp) _).far h4 (by simp) _).far h4 (by simp) _).far h4 (by simp) _).far h4 (by simp) _).far h4 (by simp) _).far h4 (by simp) _).far h4 (by simp) _)⟩, h3, h4⟩
      case measure => simp [intOf]; omega
    · obtain rfl : k = ts.length := by omega
      obtain ⟨h1, h2, h3, h4⟩ := HC.out
      have HH := Lib.hid (⟨h1, h2, h3, h4⟩ : _ ∧ _ ∧ _ ∧ _)
      clear h1 h2 h3 h4
      go_wp2
      go_ret
      obtain ⟨h1, h2, h3, h4⟩ := HH.out
      refine ⟨some ⟨w.heap.size, 0, none⟩, ts.length, qs, by rw [h2]; rfl, by rw [h4, ← tkS_len ts, List.take_length], ⟨⟨fun hl => ⟨w.heap.size, 0, rfl, hB.lt, fun i j x hx hj => ?_⟩, fun t ht => (HQ.out t ht).1⟩, ?_, fun t ht => ⟨fun a ha => ?_, fun a ha => ?_⟩⟩, hb⟩
      · rw [Nat.zero_add, hB.cell]
        exact h3 i j x hx (List.getElem?_eq_some_iff.1 hx).1 hj
      · rintro a ha
        injection ha with ha
        subst ha
        exact Nat.le_refl _
      · have := (HQ.out t ht).2.1 a ha; omega
      · have := (HQ.out t ht).2.2 a ha; omega
theorem toVersT_any (A : Option Addr) (l : List Ver) (c : Nat) (now : Int) (w : World) (hn : l.length ≤ 1048576) (hR : Sl encVer 4 w A l) :
    Calls Try.prog 40 #[.agg #[.int .i64 now, .slice A l.length c]] w fun e w' => ∃ A' c', e = .returned (.agg #[.int .i64 now, .slice A' l.length c']) ∧ OwnV w' w.heap.size (.slice A' l.length c') l ∧ Below w.heap.size w w' := by
  refine (toVers_any A l c now w hn hR).mono ?_
  rintro e w' ⟨v, rfl, ho, hb⟩
  obtain ⟨A2, c2, rfl, _, _, _⟩ := ho.sl
  exact ⟨A2, c2, rfl, ho, hb⟩
set_option maxRecDepth 100000 in
set_option maxHeartbeats 2000000 in
theorem toHall_any (A : Option Addr) (l : List Ver) (c : Nat) (now : Int) (B : Option Addr) (ts : List Tk) (d : Nat) (w : World) (hl : l.length ≤ 1048576) (hn : ts.length ≤ 1048576) (hn2 : ∀ t ∈ ts, t.ws.2.2.length ≤ 1048576 ∧ t.ns.2.2.length ≤ 1048576) (hR : Sl encVer 4 w A l) (hT : SlT w B ts) :
    Calls Try.prog 13 #[.agg #[.int .i64 now, .slice A l.length c, .slice B ts.length d]] w fun e w' => ∃ Ao co Aq cq qs, e = .returned (.agg #[.int .i64 now, .slice Ao l.length co, .slice Aq qs.length cq]) ∧ tkS qs = tkS ts ∧ OwnV w' w.heap.size (.slice Ao l.length co) l ∧ OwnT w' w.heap.size Aq qs ∧ Below w.heap.size w w' := by
  have hA2 := (Blk.new (w.alloc (.cells #[.int .i64 now, .slice A l.length c, .slice B ts.length d] 27)) 35 #[.int .i64 0, .slice none 0 0, .slice none 0 0]).alloc (.cells #[.int .i64 0, .slice none 0 0, .slice none 0 0] 35)
  have hA3 := Blk.new ((w.alloc (.cells #[.int .i64 now, .slice A l.length c, .slice B ts.length d] 27)).alloc (.cells #[.int .i64 0, .slice none 0 0, .slice none 0 0] 35)) 35 #[.int .i64 0, .slice none 0 0, .slice none 0 0]
  simp only [World.size_alloc] at hA2 hA3
  have H := Lib.hid (show B3 27 35 w #[.int .i64 now, .slice A l.length c, .slice B ts.length d] #[.int .i64 0, .slice none 0 0, .slice none 0 0] #[.int .i64 0, .slice none 0 0, .slice none 0 0] (((w.alloc (.cells #[.int .i64 now, .slice A l.length c, .slice B ts.length d] 27)).alloc (.cells #[.int .i64 0, .slice none 0 0, .slice none 0 0] 35)).alloc (.cells #[.int .i64 0, .slice none 0 0, .slice none 0 0] 35)) from ⟨((Blk.new w 27 #[.int .i64 now, .slice A l.length c, .slice B ts.length d]).alloc (.cells #[.int .i64 0, .slice none 0 0, .slice none 0 0] 35)).alloc (.cells #[.int .i64 0, .slice none 0 0, .slice none 0 0] 35), hA2, hA3, (((Below.refl w.heap.size w).alloc (Nat.le_refl _) (.cells #[.int .i64 now, .slice A l.length c, .slice B ts.length d] 27)).alloc (by simp) (.cells #[.int .i64 0, .slice none 0 0, .slice none 0 0] 35)).alloc (by simp <;> omega) (.cells #[.int .i64 0, .slice none 0 0, .slice none 0 0] 35), by simp⟩)
  clear hA2 hA3
  go_enter Try.func13, Try.ntmps13
  go_wp2_with fail
  generalize ((w.alloc (.cells #[.int .i64 now, .slice A l.length c, .slice B ts.length d] 27)).alloc (.cells #[.int .i64 0, .slice none 0 0, .slice none 0 0] 35)).alloc (.cells #[.int .i64 0, .slice none 0 0, .slice none 0 0] 35) = u1 at *
  refine (toVersT_any A l c now u1 hl (hR.below H.out.2.2.2.1)).mono ?_
  rintro e w1 ⟨Ao, co, rfl, ho, hb1⟩
  have hz1 := H.out.2.2.2.2
  have OV := Lib.hid (show OwnV w1 (w.heap.size + 3) (.slice Ao l.length co) l from (OwnV.le ho (by omega)))
  have H := Lib.hid (H.out.kept hb1)
  clear hb1 ho 
  have x1_0 : (w1).cell? ⟨w.heap.size + 1 + 1, 0, none⟩ = some (.int .i64 0) := H.out.2.2.1.cell 0
  have z1_0 := H.out.2.2.1.frozen 0
  have x1_1 : (w1).cell? ⟨w.heap.size + 1 + 1, 1, none⟩ = some (.slice none 0 0) := H.out.2.2.1.cell 1
  have z1_1 := H.out.2.2.1.frozen 1
  have H := Lib.hid (show B3 27 35 w #[.int .i64 now, .slice A l.length c, .slice B ts.length d] #[.int .i64 0, .slice none 0 0, .slice none 0 0] #[.int .i64 now, .slice none 0 0, .slice none 0 0] ((w1).setCell ⟨w.heap.size + 1 + 1, 0, none⟩ (.int .i64 now)) from H.out.set3 0 (.int .i64 now))
  have OV := Lib.hid (show OwnV ((w1).setCell ⟨w.heap.size + 1 + 1, 0, none⟩ (.int .i64 now)) (w.heap.size + 3) (.slice Ao l.length co) l from own_set OV.out (p := ⟨w.heap.size + 1 + 1, 0, none⟩) (by simp <;> omega) (.int .i64 now))
  have H := Lib.hid (show B3 27 35 w #[.int .i64 now, .slice A l.length c, .slice B ts.length d] #[.int .i64 0, .slice none 0 0, .slice none 0 0] #[.int .i64 now, .slice Ao l.length co, .slice none 0 0] (((w1).setCell ⟨w.heap.size + 1 + 1, 0, none⟩ (.int .i64 now)).setCell ⟨w.heap.size + 1 + 1, 1, none⟩ (.slice Ao l.length co)) from H.out.set3 1 (.slice Ao l.length co))
  have OV := Lib.hid (show OwnV (((w1).setCell ⟨w.heap.size + 1 + 1, 0, none⟩ (.int .i64 now)).setCell ⟨w.heap.size + 1 + 1, 1, none⟩ (.slice Ao l.length co)) (w.heap.size + 3) (.slice Ao l.length co) l from own_set OV.out (p := ⟨w.heap.size + 1 + 1, 1, none⟩) (by simp <;> omega) (.slice Ao l.length co))
  have a2_2 : (((w1).setCell ⟨w.heap.size + 1 + 1, 0, none⟩ (.int .i64 now)).setCell ⟨w.heap.size + 1 + 1, 1, none⟩ (.slice Ao l.length co)).cell? ⟨w.heap.size, 2, none⟩ = some (.slice B ts.length d) := H.out.1.cell 2
  go_wp2_with fail
  generalize ((w1).setCell ⟨w.heap.size + 1 + 1, 0, none⟩ (.int .i64 now)).setCell ⟨w.heap.size + 1 + 1, 1, none⟩ (.slice Ao l.length co) = u2 at *
  clear x1_0 z1_0 x1_1 z1_1 a2_2
  refine (toTalkS_any B ts d u2 hn hn2 (hT.below H.out.2.2.2.1)).mono ?_
  rintro e w2 ⟨Aq, cq, qs, rfl, hqs, hp, hb2⟩
  have hz2 := H.out.2.2.2.2
  have OV := Lib.hid (show OwnV w2 (w.heap.size + 3) (.slice Ao l.length co) l from own_kept OV.out hb2)
  have OT := Lib.hid (show OwnT w2 (w.heap.size + 3) Aq qs from (hp.le (by omega)))
  have H := Lib.hid (H.out.kept hb2)
  clear hb2  hp
  have x2_2 : (w2).cell? ⟨w.heap.size + 1 + 1, 2, none⟩ = some (.slice none 0 0) := H.out.2.2.1.cell 2
  have z2_2 := H.out.2.2.1.frozen 2
  have H := Lib.hid (show B3 27 35 w #[.int .i64 now, .slice A l.length c, .slice B ts.length d] #[.int .i64 0, .slice none 0 0, .slice none 0 0] #[.int .i64 now, .slice Ao l.length co, .slice Aq qs.length cq] ((w2).setCell ⟨w.heap.size + 1 + 1, 2, none⟩ (.slice Aq qs.length cq)) from H.out.set3 2 (.slice Aq qs.length cq))
  have OV := Lib.hid (show OwnV ((w2).setCell ⟨w.heap.size + 1 + 1, 2, none⟩ (.slice Aq qs.length cq)) (w.heap.size + 3) (.slice Ao l.length co) l from own_set OV.out (p := ⟨w.heap.size + 1 + 1, 2, none⟩) (by simp <;> omega) (.slice Aq qs.length cq))
  have OT := Lib.hid (show OwnT ((w2).setCell ⟨w.heap.size + 1 + 1, 2, none⟩ (.slice Aq qs.length cq)) (w.heap.size + 3) Aq qs from OwnT.set_ OT.out (p := ⟨w.heap.size + 1 + 1, 2, none⟩) (by simp <;> omega) (.slice Aq qs.length cq))
  have y_0 : ((w2).setCell ⟨w.heap.size + 1 + 1, 2, none⟩ (.slice Aq qs.length cq)).cell? ⟨w.heap.size + 1 + 1, 0, none⟩ = some (.int .i64 now) := H.out.2.2.1.cell 0
  have p_0 : ((w2).setCell ⟨w.heap.size + 1 + 1, 2, none⟩ (.slice Aq qs.length cq)).cell? ⟨w.heap.size + 1, 0, none⟩ = some (.int .i64 0) := H.out.2.1.cell 0
  have r_0 := H.out.2.1.frozen 0
  have y_1 : ((w2).setCell ⟨w.heap.size + 1 + 1, 2, none⟩ (.slice Aq qs.length cq)).cell? ⟨w.heap.size + 1 + 1, 1, none⟩ = some (.slice Ao l.length co) := H.out.2.2.1.cell 1
  have p_1 : ((w2).setCell ⟨w.heap.size + 1 + 1, 2, none⟩ (.slice Aq qs.length cq)).cell? ⟨w.heap.size + 1, 1, none⟩ = some (.slice none 0 0) := H.out.2.1.cell 1
  have r_1 := H.out.2.1.frozen 1
  have y_2 : ((w2).setCell ⟨w.heap.size + 1 + 1, 2, none⟩ (.slice Aq qs.length cq)).cell? ⟨w.heap.size + 1 + 1, 2, none⟩ = some (.slice Aq qs.length cq) := H.out.2.2.1.cell 2
  have p_2 : ((w2).setCell ⟨w.heap.size + 1 + 1, 2, none⟩ (.slice Aq qs.length cq)).cell? ⟨w.heap.size + 1, 2, none⟩ = some (.slice none 0 0) := H.out.2.1.cell 2
  have r_2 := H.out.2.1.frozen 2
  have H := Lib.hid (show B3 27 35 w #[.int .i64 now, .slice A l.length c, .slice B ts.length d] #[.int .i64 now, .slice none 0 0, .slice none 0 0] #[.int .i64 now, .slice Ao l.length co, .slice Aq qs.length cq] (((w2).setCell ⟨w.heap.size + 1 + 1, 2, none⟩ (.slice Aq qs.length cq)).setCell ⟨w.heap.size + 1, 0, none⟩ (.int .i64 now)) from H.out.set2 0 (.int .i64 now))
  have q_0 : (((w2).setCell ⟨w.heap.size + 1 + 1, 2, none⟩ (.slice Aq qs.length cq)).setCell ⟨w.heap.size + 1, 0, none⟩ (.int .i64 now)).cell? ⟨w.heap.size + 1, 0, none⟩ = some (.int .i64 now) := H.out.2.1.cell 0
  have OV := Lib.hid (show OwnV (((w2).setCell ⟨w.heap.size + 1 + 1, 2, none⟩ (.slice Aq qs.length cq)).setCell ⟨w.heap.size + 1, 0, none⟩ (.int .i64 now)) (w.heap.size + 3) (.slice Ao l.length co) l from own_set OV.out (p := ⟨w.heap.size + 1, 0, none⟩) (by simp <;> omega) (.int .i64 now))
  have OT := Lib.hid (show OwnT (((w2).setCell ⟨w.heap.size + 1 + 1, 2, none⟩ (.slice Aq qs.length cq)).setCell ⟨w.heap.size + 1, 0, none⟩ (.int .i64 now)) (w.heap.size + 3) Aq qs from OwnT.set_ OT.out (p := ⟨w.heap.size + 1, 0, none⟩) (by simp <;> omega) (.int .i64 now))
  have H := Lib.hid (show B3 27 35 w #[.int .i64 now, .slice A l.length c, .slice B ts.length d] #[.int .i64 now, .slice Ao l.length co, .slice none 0 0] #[.int .i64 now, .slice Ao l.length co, .slice Aq qs.length cq] ((((w2).setCell ⟨w.heap.size + 1 + 1, 2, none⟩ (.slice Aq qs.length cq)).setCell ⟨w.heap.size + 1, 0, none⟩ (.int .i64 now)).setCell ⟨w.heap.size + 1, 1, none⟩ (.slice Ao l.length co)) from H.out.set2 1 (.slice Ao l.length co))
  have q_1 : ((((w2).setCell ⟨w.heap.size + 1 + 1, 2, none⟩ (.slice Aq qs.length cq)).setCell ⟨w.heap.size + 1, 0, none⟩ (.int .i64 now)).setCell ⟨w.heap.size + 1, 1, none⟩ (.slice Ao l.length co)).cell? ⟨w.heap.size + 1, 1, none⟩ = some (.slice Ao l.length co) := H.out.2.1.cell 1
  have OV := Lib.hid (show OwnV ((((w2).setCell ⟨w.heap.size + 1 + 1, 2, none⟩ (.slice Aq qs.length cq)).setCell ⟨w.heap.size + 1, 0, none⟩ (.int .i64 now)).setCell ⟨w.heap.size + 1, 1, none⟩ (.slice Ao l.length co)) (w.heap.size + 3) (.slice Ao l.length co) l from own_set OV.out (p := ⟨w.heap.size + 1, 1, none⟩) (by simp <;> omega) (.slice Ao l.length co))
  have OT := Lib.hid (show OwnT ((((w2).setCell ⟨w.heap.size + 1 + 1, 2, none⟩ (.slice Aq qs.length cq)).setCell ⟨w.heap.size + 1, 0, none⟩ (.int .i64 now)).setCell ⟨w.heap.size + 1, 1, none⟩ (.slice Ao l.length co)) (w.heap.size + 3) Aq qs from OwnT.set_ OT.out (p := ⟨w.heap.size + 1, 1, none⟩) (by simp <;> omega) (.slice Ao l.length co))
  have H := Lib.hid (show B3 27 35 w #[.int .i64 now, .slice A l.length c, .slice B ts.length d] #[.int .i64 now, .slice Ao l.length co, .slice Aq qs.length cq] #[.int .i64 now, .slice Ao l.length co, .slice Aq qs.length cq] (((((w2).setCell ⟨w.heap.size + 1 + 1, 2, none⟩ (.slice Aq qs.length cq)).setCell ⟨w.heap.size + 1, 0, none⟩ (.int .i64 now)).setCell ⟨w.heap.size + 1, 1, none⟩ (.slice Ao l.length co)).setCell ⟨w.heap.size + 1, 2, none⟩ (.slice Aq qs.length cq)) from H.out.set2 2 (.slice Aq qs.length cq))
  have q_2 : (((((w2).setCell ⟨w.heap.size + 1 + 1, 2, none⟩ (.slice Aq qs.length cq)).setCell ⟨w.heap.size + 1, 0, none⟩ (.int .i64 now)).setCell ⟨w.heap.size + 1, 1, none⟩ (.slice Ao l.length co)).setCell ⟨w.heap.size + 1, 2, none⟩ (.slice Aq qs.length cq)).cell? ⟨w.heap.size + 1, 2, none⟩ = some (.slice Aq qs.length cq) := H.out.2.1.cell 2
  have OV := Lib.hid (show OwnV (((((w2).setCell ⟨w.heap.size + 1 + 1, 2, none⟩ (.slice Aq qs.length cq)).setCell ⟨w.heap.size + 1, 0, none⟩ (.int .i64 now)).setCell ⟨w.heap.size + 1, 1, none⟩ (.slice Ao l.length co)).setCell ⟨w.heap.size + 1, 2, none⟩ (.slice Aq qs.length cq)) (w.heap.size + 3) (.slice Ao l.length co) l from own_set OV.out (p := ⟨w.heap.size + 1, 2, none⟩) (by simp <;> omega) (.slice Aq qs.length cq))
  have OT := Lib.hid (show OwnT (((((w2).setCell ⟨w.heap.size + 1 + 1, 2, none⟩ (.slice Aq qs.length cq)).setCell ⟨w.heap.size + 1, 0, none⟩ (.int .i64 now)).setCell ⟨w.heap.size + 1, 1, none⟩ (.slice Ao l.length co)).setCell ⟨w.heap.size + 1, 2, none⟩ (.slice Aq qs.length cq)) (w.heap.size + 3) Aq qs from OwnT.set_ OT.out (p := ⟨w.heap.size + 1, 2, none⟩) (by simp <;> omega) (.slice Aq qs.length cq))
  have HFB := Lib.hid H.out.2.2.2.1
  have HOV := Lib.hid OV.out
  have HOT := Lib.hid OT.out
  go_wp2
  exact bodyPost_ret (v := .agg #[.int .i64 now, .slice Ao l.length co, .slice Aq qs.length cq]) (by simp [results, Try.results13, go_sem, q_0, q_1, q_2]) rfl ⟨_, _, _, _, _, rfl, hqs, OwnV.le HOV.out (by omega), HOT.out.le (by omega), HFB.out⟩
end Go.Proofs.Yteanjfjlmpgnnaa
