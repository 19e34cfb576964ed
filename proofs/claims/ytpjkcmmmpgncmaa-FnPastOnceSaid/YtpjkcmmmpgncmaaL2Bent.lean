/- The reference's l2Bent: a store, one in eight bent. -/
import Derived.Test.YtpjkcmmmpgncmaaSTrim
import Derived.Test.YtpjkcmmmpgncmaaDrC
import Derived.Test.YtpjkcmmmpgncmaaL2W
import Derived.Deep.RegionWith
import Derived.Deep.RegionLaw
import Derived.Deep.Cut
namespace Go.Proofs.Ytpjkcmmmpgncmaa
open Go.RowKit
theorem set_flatG (u : Value) (j : Nat) (hj : j < 4) (y' : Ver) : ∀ (l : List Ver) (m : Nat) (y : Ver), l[m]? = some y → encVer y' = (encVer y).set j u → (l.flatMap encVer).set (m * 4 + j) u = (l.set m y').flatMap encVer
  | [], _, _, h, _ => by simp at h
  | x :: l, 0, y, h, he => by
    simp at h; subst h
    rw [List.set_cons_zero, List.flatMap_cons, List.flatMap_cons, Nat.zero_mul, Nat.zero_add, he]
    have h4 : (encVer x).length = 4 := rfl
    rw [List.set_append_left _ _ (by omega)]
  | x :: l, m + 1, y, h, he => by
    have ih := set_flatG u j hj y' l m y (by simpa using h) he
    rw [List.set_cons_succ, List.flatMap_cons, List.flatMap_cons, ← ih]
    have h4 : (encVer x).length = 4 := rfl
    rw [List.set_append_right _ _ (by omega), h4]
    congr 2
    omega
theorem own_poke {w : World} {B gl c k j : Nat} {l : List Ver} {u : Value} (h : OwnV w B (.slice (some ⟨gl, 0, none⟩) l.length c) l) (hj : j < 4) (y y' : Ver) (hy : l[k]? = some y) (he : encVer y' = (encVer y).set j u) : OwnV (w.setCell ⟨gl, k * 4 + j, none⟩ u) B (.slice (some ⟨gl, 0, none⟩) (l.set k y').length c) (l.set k y') := by
  have h2 := (World.ownsRow.stored h (k * 4 + j) u).1
  unfold OwnV
  rw [List.length_set, ← set_flatG u j hj y' l k y hy he]
  exact h2
/-- what stands while a store is bent -/
def LB (w0 w : World) (A : Option Addr) (bs : List UInt8) (c g g5 : Nat) (now : Int) (l : List Ver) (A5 : Option Addr) (c5 q : Nat) (W : World) : Prop :=
  FitsV l ∧ Blk W g5 32 #[.int .i64 now, .slice A5 l.length c5] ∧ Blk W (w.heap.size + 1) 32 #[.int .i64 0, .slice none 0 0] ∧ OwnV W (w.heap.size + 2) (.slice A5 l.length c5) l ∧ Rd w0 W A bs c g q ∧ w.grownBy W (some g)
section
variable {w0 w : World} {A : Option Addr} {bs : List UInt8} {c g g5 : Nat} {now : Int} {l : List Ver} {A5 : Option Addr} {c5 q : Nat} {W W' : World}
theorem LB.below (h : LB w0 w A bs c g g5 now l A5 c5 q W) (hb : Below W.heap.size W W') : LB w0 w A bs c g g5 now l A5 c5 q W' := by
  obtain ⟨h1, h2, h3, h4, h5, h6⟩ := h
  exact ⟨h1, h2.kept hb, h3.kept hb, own_kept h4 hb, h5.below hb, gr_trans h6 (gr_below hb)⟩
theorem LB.draw {q' : Nat} (h : LB w0 w A bs c g g5 now l A5 c5 q W) (hR : Rd w0 W' A bs c g q') (hg : W.grownBy W' (some g)) (hgl : g < w.heap.size) (hg5 : w.heap.size + 2 ≤ g5) : LB w0 w A bs c g g5 now l A5 c5 q' W' := by
  obtain ⟨h1, h2, h3, h4, h5, h6⟩ := h
  exact ⟨h1, h2.grown hg (by simp; omega), h3.grown hg (by simp; omega), own_gr h4 hg (by omega), hR, gr_trans h6 hg⟩
theorem LB.setNow (h : LB w0 w A bs c g g5 now l A5 c5 q W) (hgl : g < w.heap.size) (hg5 : w.heap.size + 2 ≤ g5) (n : Int) : LB w0 w A bs c g g5 n l A5 c5 q (W.setCell ⟨g5, 0, none⟩ (.int .i64 n)) := by
  obtain ⟨h1, h2, h3, h4, h5, h6⟩ := h
  have := h5.2.2.1
  exact ⟨h1, h2.set_ 0 _, h3.far (by simp; omega) _, ownsRow_setCell_other h4 (Ne.symm (own_ne h4 h2)) _, h5.farS (by simp; omega) (by simp; omega) _, gr_far h6 (by simp; omega) _⟩
theorem LB.poke {gl k j : Nat} {u : Value} (h : LB w0 w A bs c g g5 now l (some ⟨gl, 0, none⟩) c5 q W) (hgl : g < w.heap.size) (_ : w.heap.size + 2 ≤ g5) (hj : j < 4) (y y' : Ver) (hy : l[k]? = some y) (he : encVer y' = (encVer y).set j u) (hs : y'.1.size ≤ maxLen) : LB w0 w A bs c g g5 now (l.set k y') (some ⟨gl, 0, none⟩) c5 q (W.setCell ⟨gl, k * 4 + j, none⟩ u) := by
  obtain ⟨h1, h2, h3, h4, h5, h6⟩ := h
  have hlo := (h4.lt gl rfl).1
  have hne := own_ne h4 h2
  have hne3 := own_ne h4 h3
  simp [Value.ownBlock] at hne hne3
  have := h5.2.2.1
  refine ⟨⟨by rw [List.length_set]; exact h1.1, fun x hx => ?_⟩, ?_, h3.far (by simp; omega) _, own_poke h4 hj y y' hy he, h5.farS (by simp; omega) (by simp; omega) _, gr_far h6 (by simp; omega) _⟩
  · rcases List.mem_or_eq_of_mem_set hx with hx | rfl
    · exact h1.2 x hx
    · exact hs
  · rw [List.length_set]; exact h2.far (by simp; omega) _
theorem LB.cells {k : Nat} (h : LB w0 w A bs c g g5 now l A5 c5 q W) (hk : k < l.length) : ∃ gl, A5 = some ⟨gl, 0, none⟩ ∧ gl < W.heap.size ∧ W.cell? ⟨gl, k * 4, none⟩ = some (.string l[k].1) ∧ W.cell? ⟨gl, k * 4 + 1, none⟩ = some (.int .i64 l[k].2.1) ∧ W.cell? ⟨gl, k * 4 + 2, none⟩ = some (.int .i64 l[k].2.2.1) ∧ W.cell? ⟨gl, k * 4 + 3, none⟩ = some (.int .i64 l[k].2.2.2) ∧ ∀ i, W.frozen? ⟨gl, i, none⟩ = false := by
  obtain ⟨h1, h2, h3, h4, h5, h6⟩ := h
  obtain ⟨b, o, e, hb, c0, c1, c2, c3⟩ := Sl.at4 h4.reads2 hk
  rcases h4.2 with ⟨h7, h8⟩ | ⟨g', cap, cur, h7, _⟩
  · omega
  · injection h7 with h7 _ _
    rw [h7] at e
    injection e with e; injection e with e1 e2
    subst e1; subst e2
    subst h7
    simp only [Nat.zero_add] at c0 c1 c2 c3
    exact ⟨g', rfl, hb, c0, c1, c2, c3, fun i => World.ownsRow.frozenAt h4 i⟩
end
def keysB : List ByteArray := [⟨#[]⟩, ⟨#[122, 122]⟩, ⟨#[97]⟩]
theorem keysB_le : ∀ x ∈ keysB, x.size ≤ 2 := by decide
set_option maxRecDepth 100000 in
set_option maxHeartbeats 6000000 in
theorem l2Bent_any (w0 : World) (A : Option Addr) (bs : List UInt8) (c g p : Nat) (A2 : Option Addr) (l : List Ver) (c2 : Nat) (now : Int) (w : World) (hR : Rd w0 w A bs c g p) (hp : p < 200000) (hl : l.length ≤ 60) (hn0 : -1 ≤ now) (hn1 : now ≤ 1000) (hf : FitsV l) (hS : Sl encVer 4 w A2 l) :
    Calls Try.prog 81 #[.pointer (some ⟨g, 0, none⟩), .agg #[.int .i64 now, .slice A2 l.length c2]] w fun e w' => ∃ (now' : Int) (l' : List Ver) (v : Value) (q : Nat), e = .returned (.agg #[.int .i64 now', v]) ∧ OwnV w' w.heap.size v l' ∧ FitsV l' ∧ l'.length ≤ 61 ∧ -2 ≤ now' ∧ now' ≤ 1001 ∧ q ≤ p + 10 ∧ Rd w0 w' A bs c g q ∧ w.grownBy w' (some g) := by
  obtain ⟨i0, hi, hz0, hz1, hz2⟩ := info_parts infoVer
  have HI := Lib.hid (⟨hi, hz0, hz1, hz2⟩ : _ ∧ _ ∧ _ ∧ _)
  clear hi hz0 hz1 hz2
  have hgl := hR.1.lt
  have hw0g := hR.2.2.1
  have hb0 := ((Below.refl w.heap.size w).alloc (Nat.le_refl _) (.cells #[.int .i64 now, .slice A2 l.length c2] 32)).alloc (by simp) (.cells #[.int .i64 0, .slice none 0 0] 32)
  have hB2 := Blk.new (w.alloc (.cells #[.int .i64 now, .slice A2 l.length c2] 32)) 32 #[.int .i64 0, .slice none 0 0]
  have HSZ := Lib.hid (show ((w.alloc (.cells #[.int .i64 now, .slice A2 l.length c2] 32)).alloc (.cells #[.int .i64 0, .slice none 0 0] 32)).heap.size = w.heap.size + 2 by simp)
  rw [World.size_alloc] at hB2
  have hwp : IntKind.i64.wrap (now + 1) = now + 1 := by rw [IntKind.wrap_i64]; omega
  have hwm : IntKind.i64.wrap (now - 1) = now - 1 := by rw [IntKind.wrap_i64]; omega
  go_enter Try.func81, Try.ntmps81
  go_wp2_with fail
  generalize (w.alloc (.cells #[.int .i64 now, .slice A2 l.length c2] 32)).alloc (.cells #[.int .i64 0, .slice none 0 0] 32) = w1 at *
  refine (l2Copy_any A2 l c2 now w1 (by omega) (hS.below hb0)).mono ?_
  rintro e w2 ⟨v, rfl, hown, hb2⟩
  obtain ⟨A5, c5, rfl, _, _, hS5⟩ := hown.sl
  have hbn := (Below.refl w2.heap.size w2).alloc (Nat.le_refl _) (.cells #[.int .i64 now, .slice A5 l.length c5] 32)
  have hb3 := bthen hb2 hbn
  have HB := Lib.hid (show LB w0 w A bs c g w2.heap.size now l A5 c5 p (w2.alloc (.cells #[.int .i64 now, .slice A5 l.length c5] 32)) from
    ⟨hf, Blk.new w2 32 _, hB2.kept hb3, own_kept (OwnV.le hown (by have := HSZ.out; omega)) hbn, hR.below (bthen hb0 hb3), gr_below (bthen hb0 hb3)⟩)
  have hg5 : w.heap.size + 2 ≤ w2.heap.size := by have := HSZ.out; have := hb2.size; omega
  have r1 : (w2.alloc (.cells #[.int .i64 now, .slice A5 l.length c5] 32)).cell? ⟨w2.heap.size, 1, none⟩ = some (.slice A5 l.length c5) := HB.out.2.1.cell 1
  clear hbn hb3 hb2 hb0 hB2 hown hS5 HSZ hf hR hS
  go_wp2_with fail
  generalize w2.alloc (.cells #[.int .i64 now, .slice A5 l.length c5] 32) = w3 at *
  generalize w2.heap.size = g5 at *
  refine (pick_any w0 A bs c g p 8 w3 HB.out.2.2.2.2.1 (by omega) (by omega)).mono ?_
  rintro e w4 ⟨j, hj, rfl, hR4, hG4⟩
  have HB4 := Lib.hid (HB.out.draw hR4 hG4 hgl hg5)
  clear HB hR4 hG4 r1
  by_cases j0 : 0 < j
  · have j0' : decide ((0 : Int) < (j : Int)) = true := decide_eq_true (by omega)
    have j1' : (0 : Int) < (j : Int) := by omega
    have hB3 := HB4.out.2.2.1
    have z0 := hB3.frozen 0
    have z1 := hB3.frozen 1
    have x0 : w4.cell? ⟨w.heap.size + 1, 0, none⟩ = some (.int .i64 0) := hB3.cell 0
    have x1 : w4.cell? ⟨w.heap.size + 1, 1, none⟩ = some (.slice none 0 0) := hB3.cell 1
    have r0 : w4.cell? ⟨g5, 0, none⟩ = some (.int .i64 now) := HB4.out.2.1.cell 0
    have r1 : w4.cell? ⟨g5, 1, none⟩ = some (.slice A5 l.length c5) := HB4.out.2.1.cell 1
    obtain ⟨q0, q1⟩ := hB3.two (.int .i64 now) (.slice A5 l.length c5)
    have HO6 := Lib.hid (own_set (own_set HB4.out.2.2.2.1 (p := ⟨w.heap.size + 1, 0, none⟩) (by simp) (.int .i64 now)) (p := ⟨w.heap.size + 1, 1, none⟩) (by simp) (.slice A5 l.length c5))
    have HR6 := Lib.hid ((HB4.out.2.2.2.2.1.farS (p := ⟨w.heap.size + 1, 0, none⟩) (by simp; omega) (by simp; omega) (.int .i64 now)).farS (p := ⟨w.heap.size + 1, 1, none⟩) (by simp; omega) (by simp; omega) (.slice A5 l.length c5))
    have HG6 := Lib.hid (gr_far (p := ⟨w.heap.size + 1, 1, none⟩) (gr_far (p := ⟨w.heap.size + 1, 0, none⟩) HB4.out.2.2.2.2.2 (by simp) (.int .i64 now)) (by simp) (.slice A5 l.length c5))
    clear hB3
    go_wp2
    refine bodyPost_ret (v := .agg #[.int .i64 now, .slice A5 l.length c5]) (by simp [results, Try.results81, go_sem, q0, q1]) rfl ⟨now, l, _, p + 1, rfl, OwnV.le HO6.out (by omega), HB4.out.1, by omega, by omega, by omega, by omega, HR6.out, HG6.out⟩
  · obtain rfl : j = 0 := by omega
    clear j0
    by_cases hl0 : l.length = 0
    · have d0 : ((l.length : Int) == 0) = true := by rw [beq_iff_eq]; omega
      have d1 : decide ((l.length : Int) = 0) = true := decide_eq_true (by omega)
      clear hl0
      have S1 := Sl.litN w4 3 [-1, 41, 40, 3] #[.int .i64 (-1), .int .i64 41, .int .i64 40, .int .i64 3] rfl
      have HB5 := Lib.hid (HB4.out.below ((Below.refl w4.heap.size w4).alloc (Nat.le_refl _) (.cells #[.int .i64 (-1), .int .i64 41, .int .i64 40, .int .i64 3] 3)))
      have hg4 := HB4.out.2.2.2.2.1.1.lt
      go_wp2_with fail
      refine (num_any w0 A bs c g (p + 1) (some ⟨w4.heap.size, 0, none⟩) [-1, 41, 40, 3] 4 _ HB5.out.2.2.2.2.1 (by omega) (by decide) S1 (by intro b o h; simp at h; omega)).mono ?_
      rintro e w5 ⟨x, hx, rfl, hR5, hG5⟩
      have hxr : -1 ≤ x ∧ x ≤ 41 := by simp at hx; omega
      have HB6 := Lib.hid (HB5.out.draw hR5 hG5 hgl hg5)
      clear S1 hx hR5 hG5 HB4 HB5 hg4
      have e0 : w5.cell? ⟨g5, 0, none⟩ = some (.int .i64 now) := HB6.out.2.1.cell 0
      have f0 := HB6.out.2.1.frozen 0
      have HB7 := Lib.hid (HB6.out.setNow hgl hg5 x)
      have e1 : (w5.setCell ⟨g5, 0, none⟩ (.int .i64 x)).cell? ⟨g5, 0, none⟩ = some (.int .i64 x) := HB7.out.2.1.cell 0
      have e2 : (w5.setCell ⟨g5, 0, none⟩ (.int .i64 x)).cell? ⟨g5, 1, none⟩ = some (.slice A5 l.length c5) := HB7.out.2.1.cell 1
      have y0 : (w5.setCell ⟨g5, 0, none⟩ (.int .i64 x)).cell? ⟨w.heap.size + 1, 0, none⟩ = some (.int .i64 0) := HB7.out.2.2.1.cell 0
      have y1 : (w5.setCell ⟨g5, 0, none⟩ (.int .i64 x)).cell? ⟨w.heap.size + 1, 1, none⟩ = some (.slice none 0 0) := HB7.out.2.2.1.cell 1
      have y2 := HB7.out.2.2.1.frozen 0
      have y3 := HB7.out.2.2.1.frozen 1
      clear HB6
      go_upto_region 7 with fail
      clear e0 f0 e1 e2 y0 y1 y2 y3
      generalize w5.setCell ⟨g5, 0, none⟩ (.int .i64 x) = W7 at *
      have hB3 := HB7.out.2.2.1
      have z0 := hB3.frozen 0
      have z1 := hB3.frozen 1
      have x0 : W7.cell? ⟨w.heap.size + 1, 0, none⟩ = some (.int .i64 0) := hB3.cell 0
      have x1 : W7.cell? ⟨w.heap.size + 1, 1, none⟩ = some (.slice none 0 0) := hB3.cell 1
      have r0 : W7.cell? ⟨g5, 0, none⟩ = some (.int .i64 x) := HB7.out.2.1.cell 0
      have r1 : W7.cell? ⟨g5, 1, none⟩ = some (.slice A5 l.length c5) := HB7.out.2.1.cell 1
      obtain ⟨q0, q1⟩ := hB3.two (.int .i64 x) (.slice A5 l.length c5)
      have HO6 := Lib.hid (own_set (own_set HB7.out.2.2.2.1 (p := ⟨w.heap.size + 1, 0, none⟩) (by simp) (.int .i64 x)) (p := ⟨w.heap.size + 1, 1, none⟩) (by simp) (.slice A5 l.length c5))
      have HR6 := Lib.hid ((HB7.out.2.2.2.2.1.farS (p := ⟨w.heap.size + 1, 0, none⟩) (by simp; omega) (by simp; omega) (.int .i64 x)).farS (p := ⟨w.heap.size + 1, 1, none⟩) (by simp; omega) (by simp; omega) (.slice A5 l.length c5))
      have HG6 := Lib.hid (gr_far (p := ⟨w.heap.size + 1, 1, none⟩) (gr_far (p := ⟨w.heap.size + 1, 0, none⟩) HB7.out.2.2.2.2.2 (by simp) (.int .i64 x)) (by simp) (.slice A5 l.length c5))
      clear hB3
      go_wp2
      refine bodyPost_ret (v := .agg #[.int .i64 x, .slice A5 l.length c5]) (by simp [results, Try.results81, go_sem, q0, q1]) rfl ⟨x, l, _, p + 1 + 1, rfl, OwnV.le HO6.out (by omega), HB7.out.1, by omega, by omega, by omega, by omega, HR6.out, HG6.out⟩
    · have d0 : ((l.length : Int) == 0) = false := beq_eq_false_iff_ne.2 (by omega)
      have d1 : decide ((l.length : Int) = 0) = false := decide_eq_false (by omega)
      go_wp2_with fail
      refine (pick_any w0 A bs c g (p + 1) l.length w4 HB4.out.2.2.2.2.1 (by omega) (by omega)).mono ?_
      rintro e w5 ⟨k, hk, rfl, hR5, hG5⟩
      have HB5 := Lib.hid (HB4.out.draw hR5 hG5 hgl hg5)
      clear HB4 hR5 hG5 hl0
      go_wp2_with fail
      refine (pick_any w0 A bs c g (p + 1 + 1) 6 w5 HB5.out.2.2.2.2.1 (by omega) (by omega)).mono ?_
      rintro e w4 ⟨u, hu, rfl, hR6, hG6⟩
      have HB4 := Lib.hid (HB5.out.draw hR6 hG6 hgl hg5)
      clear HB5 hR6 hG6
      obtain ⟨gl, rfl, hglt, c0, c1, c2', c3, hfz⟩ := HB4.out.cells hk
      have HK := Lib.hid (List.getElem?_eq_getElem hk)
      have hky := HB4.out.1.2 l[k] (List.getElem_mem hk)
      generalize l[k] = y at *
      obtain ⟨yk, yn, yf, yt⟩ := y
      simp only at c0 c1 c2' c3 hky
      have hki : (k : Int) < (l.length : Int) := by omega
      have r0 : w4.cell? ⟨g5, 0, none⟩ = some (.int .i64 now) := HB4.out.2.1.cell 0
      have r1 : w4.cell? ⟨g5, 1, none⟩ = some (.slice (some ⟨gl, 0, none⟩) l.length c5) := HB4.out.2.1.cell 1
      have hg5l := HB4.out.2.1.lt
      have hg4 := HB4.out.2.2.2.2.1.1.lt
      have hu6 : u = 0 ∨ u = 1 ∨ u = 2 ∨ u = 3 ∨ u = 4 ∨ u = 5 := by omega
      clear hu
      rcases hu6 with rfl | rfl | rfl | rfl | rfl | rfl
      · have S1 := Sl.litN w4 3 [-1, 41, now - 1, 40] #[.int .i64 (-1), .int .i64 41, .int .i64 (now - 1), .int .i64 40] rfl
        have HB5 := Lib.hid (HB4.out.below ((Below.refl w4.heap.size w4).alloc (Nat.le_refl _) (.cells #[.int .i64 (-1), .int .i64 41, .int .i64 (now - 1), .int .i64 40] 3)))
        go_wp2_with fail
        refine (num_any w0 A bs c g (p + 1 + 1 + 1) (some ⟨w4.heap.size, 0, none⟩) [-1, 41, now - 1, 40] 4 _ HB5.out.2.2.2.2.1 (by omega) ⟨by simp, by simp⟩ S1 (by intro b o h; simp at h; omega)).mono ?_
        rintro e w5 ⟨x, hx, rfl, hR5, hG5⟩
        have hxr : -2 ≤ x ∧ x ≤ 1000 := by simp at hx; omega
        have HB6 := Lib.hid (HB5.out.draw hR5 hG5 hgl hg5)
        clear S1 hx hR5 hG5 HB4 HB5 hg4 r0 r1 c0 c1 c2' c3 hfz
        have e0 : w5.cell? ⟨g5, 0, none⟩ = some (.int .i64 now) := HB6.out.2.1.cell 0
        have f0 := HB6.out.2.1.frozen 0
        have HB7 := Lib.hid (HB6.out.setNow hgl hg5 x)
        have e1 : (w5.setCell ⟨g5, 0, none⟩ (.int .i64 x)).cell? ⟨g5, 0, none⟩ = some (.int .i64 x) := HB7.out.2.1.cell 0
        have e2 : (w5.setCell ⟨g5, 0, none⟩ (.int .i64 x)).cell? ⟨g5, 1, none⟩ = some (.slice (some ⟨gl, 0, none⟩) l.length c5) := HB7.out.2.1.cell 1
        have y0 : (w5.setCell ⟨g5, 0, none⟩ (.int .i64 x)).cell? ⟨w.heap.size + 1, 0, none⟩ = some (.int .i64 0) := HB7.out.2.2.1.cell 0
        have y1 : (w5.setCell ⟨g5, 0, none⟩ (.int .i64 x)).cell? ⟨w.heap.size + 1, 1, none⟩ = some (.slice none 0 0) := HB7.out.2.2.1.cell 1
        have y2 := HB7.out.2.2.1.frozen 0
        have y3 := HB7.out.2.2.1.frozen 1
        clear HB6
        go_upto_region 21 with fail
        clear e0 f0 e1 e2 y0 y1 y2 y3
        generalize w5.setCell ⟨g5, 0, none⟩ (.int .i64 x) = W7 at *
        have hB3 := HB7.out.2.2.1
        have z0 := hB3.frozen 0
        have z1 := hB3.frozen 1
        have x0 : W7.cell? ⟨w.heap.size + 1, 0, none⟩ = some (.int .i64 0) := hB3.cell 0
        have x1 : W7.cell? ⟨w.heap.size + 1, 1, none⟩ = some (.slice none 0 0) := hB3.cell 1
        have r0 : W7.cell? ⟨g5, 0, none⟩ = some (.int .i64 x) := HB7.out.2.1.cell 0
        have r1 : W7.cell? ⟨g5, 1, none⟩ = some (.slice (some ⟨gl, 0, none⟩) l.length c5) := HB7.out.2.1.cell 1
        obtain ⟨q0, q1⟩ := hB3.two (.int .i64 x) (.slice (some ⟨gl, 0, none⟩) l.length c5)
        have HO6 := Lib.hid (own_set (own_set HB7.out.2.2.2.1 (p := ⟨w.heap.size + 1, 0, none⟩) (by simp) (.int .i64 x)) (p := ⟨w.heap.size + 1, 1, none⟩) (by simp) (.slice (some ⟨gl, 0, none⟩) l.length c5))
        have HR6 := Lib.hid ((HB7.out.2.2.2.2.1.farS (p := ⟨w.heap.size + 1, 0, none⟩) (by simp; omega) (by simp; omega) (.int .i64 x)).farS (p := ⟨w.heap.size + 1, 1, none⟩) (by simp; omega) (by simp; omega) (.slice (some ⟨gl, 0, none⟩) l.length c5))
        have HG6 := Lib.hid (gr_far (p := ⟨w.heap.size + 1, 1, none⟩) (gr_far (p := ⟨w.heap.size + 1, 0, none⟩) HB7.out.2.2.2.2.2 (by simp) (.int .i64 x)) (by simp) (.slice (some ⟨gl, 0, none⟩) l.length c5))
        clear hB3
        go_wp2
        refine bodyPost_ret (v := .agg #[.int .i64 x, .slice (some ⟨gl, 0, none⟩) l.length c5]) (by simp [results, Try.results81, go_sem, q0, q1]) rfl ⟨x, l, _, p + 1 + 1 + 1 + 1, rfl, OwnV.le HO6.out (by omega), HB7.out.1, by omega, by omega, by omega, by omega, HR6.out, HG6.out⟩
      · have S1 := Sl.below (Sl.litN w4 3 [0, -1, now + 1, 1] #[.int .i64 0, .int .i64 (-1), .int .i64 (now + 1), .int .i64 1] rfl) ((Below.refl _ _).drew)
        have HB5 := Lib.hid (HB4.out.below (show Below w4.heap.size w4 (w4.alloc (.cells #[.int .i64 0, .int .i64 (-1), .int .i64 (now + 1), .int .i64 1] 3)).drew from ((Below.refl w4.heap.size w4).alloc (Nat.le_refl _) _).drew))
        have HC := Lib.hid (num_any w0 A bs c g (p + 1 + 1 + 1) (some ⟨w4.heap.size, 0, none⟩) [0, -1, now + 1, 1] 4 (w4.alloc (.cells #[.int .i64 0, .int .i64 (-1), .int .i64 (now + 1), .int .i64 1] 3)).drew HB5.out.2.2.2.2.1 (by omega) ⟨by simp, by simp⟩ S1 (by intro b o h; simp at h; omega))
        clear S1
        go_wp2_with fail
        go_region_with (go_at_call 56; refine HC.out.mono ?_; rintro e w5 ⟨x, hx, rfl, hR5, hG5⟩; have HB6 := Lib.hid (HB5.out.draw hR5 hG5 hgl hg5); obtain ⟨gl', e9, hglt5, k0, k1, k2, k3, hfz5⟩ := HB6.out.cells hk; have e8 : gl = gl' := (by simp at e9; exact e9); subst e8; have r5 : w5.cell? ⟨g5, 0, none⟩ = some (.int .i64 now) := HB6.out.2.1.cell 0; have r6 : w5.cell? ⟨g5, 1, none⟩ = some (.slice (some ⟨gl, 0, none⟩) l.length c5) := HB6.out.2.1.cell 1; have f5 := hfz5 (k * 4 + 2); have HX := Lib.hid hx; clear hR5 hG5 e9 hx hfz5)
        all_goals
          have HB7 := Lib.hid (LB.poke (k := k) (j := 2) (u := .int .i64 x) HB6.out hgl hg5 (by decide) (yk, yn, yf, yt) (yk, yn, x, yt) HK.out rfl (hky))
          generalize hl2 : l.set k (yk, yn, x, yt) = l2 at *
          have hl2l : l2.length ≤ 61 := by rw [← hl2, List.length_set]; omega
          clear hl2 HB4 HB5 HB6 HC r0 r1 r5 r6 c0 c1 c2' c3 k0 k1 k2 k3 f5 hfz
          generalize w5.setCell ⟨gl, k * 4 + 2, none⟩ (.int .i64 x) = W7 at *
          have hB3 := HB7.out.2.2.1
          have z0 := hB3.frozen 0
          have z1 := hB3.frozen 1
          have x0 : W7.cell? ⟨w.heap.size + 1, 0, none⟩ = some (.int .i64 0) := hB3.cell 0
          have x1 : W7.cell? ⟨w.heap.size + 1, 1, none⟩ = some (.slice none 0 0) := hB3.cell 1
          have r0 : W7.cell? ⟨g5, 0, none⟩ = some (.int .i64 now) := HB7.out.2.1.cell 0
          have r1 : W7.cell? ⟨g5, 1, none⟩ = some (.slice (some ⟨gl, 0, none⟩) l2.length c5) := HB7.out.2.1.cell 1
          obtain ⟨q0, q1⟩ := hB3.two (.int .i64 now) (.slice (some ⟨gl, 0, none⟩) l2.length c5)
          have HO6 := Lib.hid (own_set (own_set HB7.out.2.2.2.1 (p := ⟨w.heap.size + 1, 0, none⟩) (by simp) (.int .i64 now)) (p := ⟨w.heap.size + 1, 1, none⟩) (by simp) (.slice (some ⟨gl, 0, none⟩) l2.length c5))
          have HR6 := Lib.hid ((HB7.out.2.2.2.2.1.farS (p := ⟨w.heap.size + 1, 0, none⟩) (by simp; omega) (by simp; omega) (.int .i64 now)).farS (p := ⟨w.heap.size + 1, 1, none⟩) (by simp; omega) (by simp; omega) (.slice (some ⟨gl, 0, none⟩) l2.length c5))
          have HG6 := Lib.hid (gr_far (p := ⟨w.heap.size + 1, 1, none⟩) (gr_far (p := ⟨w.heap.size + 1, 0, none⟩) HB7.out.2.2.2.2.2 (by simp) (.int .i64 now)) (by simp) (.slice (some ⟨gl, 0, none⟩) l2.length c5))
          clear hB3
          go_wp2
          refine bodyPost_ret (v := .agg #[.int .i64 now, .slice (some ⟨gl, 0, none⟩) l2.length c5]) (by simp [results, Try.results81, go_sem, q0, q1]) rfl ⟨now, l2, _, p + 1 + 1 + 1 + 1, rfl, OwnV.le HO6.out (by omega), HB7.out.1, by omega, by omega, by omega, by omega, HR6.out, HG6.out⟩
      · have S1 := Sl.below (Sl.litN w4 3 [0, -1, now + 1, yf] #[.int .i64 0, .int .i64 (-1), .int .i64 (now + 1), .int .i64 yf] rfl) ((Below.refl _ _).drew)
        have HB5 := Lib.hid (HB4.out.below (show Below w4.heap.size w4 (w4.alloc (.cells #[.int .i64 0, .int .i64 (-1), .int .i64 (now + 1), .int .i64 yf] 3)).drew from ((Below.refl w4.heap.size w4).alloc (Nat.le_refl _) _).drew))
        have HC := Lib.hid (num_any w0 A bs c g (p + 1 + 1 + 1) (some ⟨w4.heap.size, 0, none⟩) [0, -1, now + 1, yf] 4 (w4.alloc (.cells #[.int .i64 0, .int .i64 (-1), .int .i64 (now + 1), .int .i64 yf] 3)).drew HB5.out.2.2.2.2.1 (by omega) ⟨by simp, by simp⟩ S1 (by intro b o h; simp at h; omega))
        clear S1
        go_wp2_with fail
        go_region_with (go_at_call 56; refine HC.out.mono ?_; rintro e w5 ⟨x, hx, rfl, hR5, hG5⟩; have HB6 := Lib.hid (HB5.out.draw hR5 hG5 hgl hg5); obtain ⟨gl', e9, hglt5, k0, k1, k2, k3, hfz5⟩ := HB6.out.cells hk; have e8 : gl = gl' := (by simp at e9; exact e9); subst e8; have r5 : w5.cell? ⟨g5, 0, none⟩ = some (.int .i64 now) := HB6.out.2.1.cell 0; have r6 : w5.cell? ⟨g5, 1, none⟩ = some (.slice (some ⟨gl, 0, none⟩) l.length c5) := HB6.out.2.1.cell 1; have f5 := hfz5 (k * 4 + 3); have HX := Lib.hid hx; clear hR5 hG5 e9 hx hfz5)
        all_goals
          have HB7 := Lib.hid (LB.poke (k := k) (j := 3) (u := .int .i64 x) HB6.out hgl hg5 (by decide) (yk, yn, yf, yt) (yk, yn, yf, x) HK.out rfl (hky))
          generalize hl2 : l.set k (yk, yn, yf, x) = l2 at *
          have hl2l : l2.length ≤ 61 := by rw [← hl2, List.length_set]; omega
          clear hl2 HB4 HB5 HB6 HC r0 r1 r5 r6 c0 c1 c2' c3 k0 k1 k2 k3 f5 hfz
          generalize w5.setCell ⟨gl, k * 4 + 3, none⟩ (.int .i64 x) = W7 at *
          have hB3 := HB7.out.2.2.1
          have z0 := hB3.frozen 0
          have z1 := hB3.frozen 1
          have x0 : W7.cell? ⟨w.heap.size + 1, 0, none⟩ = some (.int .i64 0) := hB3.cell 0
          have x1 : W7.cell? ⟨w.heap.size + 1, 1, none⟩ = some (.slice none 0 0) := hB3.cell 1
          have r0 : W7.cell? ⟨g5, 0, none⟩ = some (.int .i64 now) := HB7.out.2.1.cell 0
          have r1 : W7.cell? ⟨g5, 1, none⟩ = some (.slice (some ⟨gl, 0, none⟩) l2.length c5) := HB7.out.2.1.cell 1
          obtain ⟨q0, q1⟩ := hB3.two (.int .i64 now) (.slice (some ⟨gl, 0, none⟩) l2.length c5)
          have HO6 := Lib.hid (own_set (own_set HB7.out.2.2.2.1 (p := ⟨w.heap.size + 1, 0, none⟩) (by simp) (.int .i64 now)) (p := ⟨w.heap.size + 1, 1, none⟩) (by simp) (.slice (some ⟨gl, 0, none⟩) l2.length c5))
          have HR6 := Lib.hid ((HB7.out.2.2.2.2.1.farS (p := ⟨w.heap.size + 1, 0, none⟩) (by simp; omega) (by simp; omega) (.int .i64 now)).farS (p := ⟨w.heap.size + 1, 1, none⟩) (by simp; omega) (by simp; omega) (.slice (some ⟨gl, 0, none⟩) l2.length c5))
          have HG6 := Lib.hid (gr_far (p := ⟨w.heap.size + 1, 1, none⟩) (gr_far (p := ⟨w.heap.size + 1, 0, none⟩) HB7.out.2.2.2.2.2 (by simp) (.int .i64 now)) (by simp) (.slice (some ⟨gl, 0, none⟩) l2.length c5))
          clear hB3
          go_wp2
          refine bodyPost_ret (v := .agg #[.int .i64 now, .slice (some ⟨gl, 0, none⟩) l2.length c5]) (by simp [results, Try.results81, go_sem, q0, q1]) rfl ⟨now, l2, _, p + 1 + 1 + 1 + 1, rfl, OwnV.le HO6.out (by omega), HB7.out.1, by omega, by omega, by omega, by omega, HR6.out, HG6.out⟩
      · have S1 := Sl.below (Sl.litS w4 9 keysB #[.string ⟨#[]⟩, .string ⟨#[122, 122]⟩, .string ⟨#[97]⟩] rfl) ((Below.refl _ _).drew)
        have HB5 := Lib.hid (HB4.out.below (show Below w4.heap.size w4 (w4.alloc (.cells #[.string ⟨#[]⟩, .string ⟨#[122, 122]⟩, .string ⟨#[97]⟩] 9)).drew from ((Below.refl w4.heap.size w4).alloc (Nat.le_refl _) _).drew))
        have HC := Lib.hid (of_any w0 A bs c g (p + 1 + 1 + 1) (some ⟨w4.heap.size, 0, none⟩) keysB 3 (w4.alloc (.cells #[.string ⟨#[]⟩, .string ⟨#[122, 122]⟩, .string ⟨#[97]⟩] 9)).drew HB5.out.2.2.2.2.1 (by omega) ⟨by decide, by decide⟩ S1 (by intro b o h; simp at h; omega))
        clear S1
        go_wp2_with fail
        go_region_with (go_at_call 106; refine HC.out.mono ?_; rintro e w5 ⟨x, hx, rfl, hR5, hG5⟩; have HB6 := Lib.hid (HB5.out.draw hR5 hG5 hgl hg5); obtain ⟨gl', e9, hglt5, k0, k1, k2, k3, hfz5⟩ := HB6.out.cells hk; have e8 : gl = gl' := (by simp at e9; exact e9); subst e8; have r5 : w5.cell? ⟨g5, 0, none⟩ = some (.int .i64 now) := HB6.out.2.1.cell 0; have r6 : w5.cell? ⟨g5, 1, none⟩ = some (.slice (some ⟨gl, 0, none⟩) l.length c5) := HB6.out.2.1.cell 1; have f5 := hfz5 (k * 4); have HX := Lib.hid hx; clear hR5 hG5 e9 hx hfz5)
        all_goals
          have HB7 := Lib.hid (LB.poke (k := k) (j := 0) (u := .string x) HB6.out hgl hg5 (by decide) (yk, yn, yf, yt) (x, yn, yf, yt) HK.out rfl (by have := keysB_le x HX.out; unfold maxLen; simp only; omega))
          generalize hl2 : l.set k (x, yn, yf, yt) = l2 at *
          have hl2l : l2.length ≤ 61 := by rw [← hl2, List.length_set]; omega
          clear hl2 HB4 HB5 HB6 HC r0 r1 r5 r6 c0 c1 c2' c3 k0 k1 k2 k3 f5 hfz
          generalize w5.setCell ⟨gl, k * 4, none⟩ (.string x) = W7 at *
          have hB3 := HB7.out.2.2.1
          have z0 := hB3.frozen 0
          have z1 := hB3.frozen 1
          have x0 : W7.cell? ⟨w.heap.size + 1, 0, none⟩ = some (.int .i64 0) := hB3.cell 0
          have x1 : W7.cell? ⟨w.heap.size + 1, 1, none⟩ = some (.slice none 0 0) := hB3.cell 1
          have r0 : W7.cell? ⟨g5, 0, none⟩ = some (.int .i64 now) := HB7.out.2.1.cell 0
          have r1 : W7.cell? ⟨g5, 1, none⟩ = some (.slice (some ⟨gl, 0, none⟩) l2.length c5) := HB7.out.2.1.cell 1
          obtain ⟨q0, q1⟩ := hB3.two (.int .i64 now) (.slice (some ⟨gl, 0, none⟩) l2.length c5)
          have HO6 := Lib.hid (own_set (own_set HB7.out.2.2.2.1 (p := ⟨w.heap.size + 1, 0, none⟩) (by simp) (.int .i64 now)) (p := ⟨w.heap.size + 1, 1, none⟩) (by simp) (.slice (some ⟨gl, 0, none⟩) l2.length c5))
          have HR6 := Lib.hid ((HB7.out.2.2.2.2.1.farS (p := ⟨w.heap.size + 1, 0, none⟩) (by simp; omega) (by simp; omega) (.int .i64 now)).farS (p := ⟨w.heap.size + 1, 1, none⟩) (by simp; omega) (by simp; omega) (.slice (some ⟨gl, 0, none⟩) l2.length c5))
          have HG6 := Lib.hid (gr_far (p := ⟨w.heap.size + 1, 1, none⟩) (gr_far (p := ⟨w.heap.size + 1, 0, none⟩) HB7.out.2.2.2.2.2 (by simp) (.int .i64 now)) (by simp) (.slice (some ⟨gl, 0, none⟩) l2.length c5))
          clear hB3
          go_wp2
          refine bodyPost_ret (v := .agg #[.int .i64 now, .slice (some ⟨gl, 0, none⟩) l2.length c5]) (by simp [results, Try.results81, go_sem, q0, q1]) rfl ⟨now, l2, _, p + 1 + 1 + 1 + 1, rfl, OwnV.le HO6.out (by omega), HB7.out.1, by omega, by omega, by omega, by omega, HR6.out, HG6.out⟩
      · have HBD := Lib.hid (show Below w4.heap.size w4 (w4.alloc (.cells #[.string yk, .int .i64 yn, .int .i64 yf, .int .i64 yt] 88)).drew from ((Below.refl w4.heap.size w4).alloc (Nat.le_refl _) _).drew)
        have HB5 := Lib.hid (HB4.out.below HBD.out)
        have HXS := Lib.hid (show Sl encVer 4 (w4.alloc (.cells #[.string yk, .int .i64 yn, .int .i64 yf, .int .i64 yt] 88)).drew (some ⟨w4.heap.size, 0, none⟩) [(yk, yn, yf, yt)] from sl_one (x := (yk, yn, yf, yt)) (Blk.new w4 88 #[.string yk, .int .i64 yn, .int .i64 yf, .int .i64 yt]).drew)
        have H63 := Lib.hid (show l.length + [((yk, yn, yf, yt) : Ver)].length ≤ maxLen by unfold maxLen; simp; omega)
        have HBY := Lib.hid (show (l.length + [((yk, yn, yf, yt) : Ver)].length) * 40 ≤ 140737488355328 by simp; omega)
        have HBS := Lib.hid (show w.heap.size + 2 ≤ (w4.alloc (.cells #[.string yk, .int .i64 yn, .int .i64 yf, .int .i64 yt] 88)).drew.heap.size by show _ ≤ (w4.alloc _).heap.size; simp; omega)
        go_wp2_with fail
        go_region_law (refine step_append_sl (enc := encVer) rfl (.tmp 91) (.tmp 97) 30 rfl (w.heap.size + 2) 88 i0 (.agg #[.string ⟨#[]⟩, .int .i64 0, .int .i64 0, .int .i64 0]) 4 40 Try.underlying30 HI.out.1 HI.out.2.1 HI.out.2.2.1 HI.out.2.2.2 rfl (by decide) (.slice (some ⟨gl, 0, none⟩) l.length c5) l.length (l.flatMap encVer) (by simp [Act.eval]) HB5.out.2.2.2.1 encVer_len (some ⟨w4.heap.size, 0, none⟩) [((yk, yn, yf, yt) : Ver)] 1 (by simp [Act.eval]) HXS.out (encVer_one _) H63.out HBY.out HBS.out ?_; intro v' w' hown hgrow; obtain ⟨l2, hm2, ho⟩ : ∃ l2, l2 = l ++ [((yk, yn, yf, yt) : Ver)] ∧ OwnV w' (w.heap.size + 2) v' l2 := ⟨_, rfl, ownV_app hown⟩; have HM2 := Lib.hid hm2; obtain ⟨A', c', rfl, _, _, hS'⟩ := ho.sl; have HOW := Lib.hid ho; have HG := Lib.hid hgrow; have HBB := Lib.hid (HB5.out.2.1.grown hgrow (own_ne HB5.out.2.2.2.1 HB5.out.2.1)); have z1 := HBB.out.frozen 1; have x1 : w'.cell? ⟨g5, 1, none⟩ = some (.slice (some ⟨gl, 0, none⟩) l.length c5) := HBB.out.cell 1; clear hown hgrow hS' ho hm2)
        all_goals
          have HB7 := Lib.hid (show LB w0 w A bs c g g5 now l2 A' c' (p + 1 + 1 + 1) (w'.setCell ⟨g5, 1, none⟩ (.slice A' l2.length c')) from by
            obtain ⟨h1, h2, h3, h4, h5, h6⟩ := HB5.out
            have hlo := (h4.lt gl rfl).1
            have := h5.2.2.1
            refine ⟨⟨by rw [HM2.out]; unfold maxLen; simp; omega, fun x hx => ?_⟩, HBB.out.set_ 1 _, (h3.grown HG.out (own_ne h4 h3)).far (by simp; omega) _, ownsRow_setCell_other HOW.out (Ne.symm (own_ne HOW.out HBB.out)) _, (h5.own HG.out (fun j hj => by have := (h4.lt j hj).1; omega)).farS (by simp; omega) (by simp; omega) _, gr_far (gr_own h6 HG.out (fun j hj => by have := (h4.lt j hj).1; omega)) (by simp; omega) _⟩
            rw [HM2.out] at hx
            rcases List.mem_append.1 hx with h | h
            · exact h1.2 x h
            · simp at h; subst h; exact hky)
          have hl2l : l2.length ≤ 61 := by rw [HM2.out]; simp; omega
          clear HB4 HB5 z1 x1 r0 r1 c0 c1 c2' c3 hfz
          generalize w'.setCell ⟨g5, 1, none⟩ (.slice A' l2.length c') = W7 at *
          have hB3 := HB7.out.2.2.1
          have z0 := hB3.frozen 0
          have z1 := hB3.frozen 1
          have x0 : W7.cell? ⟨w.heap.size + 1, 0, none⟩ = some (.int .i64 0) := hB3.cell 0
          have x1 : W7.cell? ⟨w.heap.size + 1, 1, none⟩ = some (.slice none 0 0) := hB3.cell 1
          have r0 : W7.cell? ⟨g5, 0, none⟩ = some (.int .i64 now) := HB7.out.2.1.cell 0
          have r1 : W7.cell? ⟨g5, 1, none⟩ = some (.slice A' l2.length c') := HB7.out.2.1.cell 1
          obtain ⟨q0, q1⟩ := hB3.two (.int .i64 now) (.slice A' l2.length c')
          have HO6 := Lib.hid (own_set (own_set HB7.out.2.2.2.1 (p := ⟨w.heap.size + 1, 0, none⟩) (by simp) (.int .i64 now)) (p := ⟨w.heap.size + 1, 1, none⟩) (by simp) (.slice A' l2.length c'))
          have HR6 := Lib.hid ((HB7.out.2.2.2.2.1.farS (p := ⟨w.heap.size + 1, 0, none⟩) (by simp; omega) (by simp; omega) (.int .i64 now)).farS (p := ⟨w.heap.size + 1, 1, none⟩) (by simp; omega) (by simp; omega) (.slice A' l2.length c'))
          have HG6 := Lib.hid (gr_far (p := ⟨w.heap.size + 1, 1, none⟩) (gr_far (p := ⟨w.heap.size + 1, 0, none⟩) HB7.out.2.2.2.2.2 (by simp) (.int .i64 now)) (by simp) (.slice A' l2.length c'))
          clear hB3
          go_wp2
          refine bodyPost_ret (v := .agg #[.int .i64 now, .slice A' l2.length c']) (by simp [results, Try.results81, go_sem, q0, q1]) rfl ⟨now, l2, _, p + 1 + 1 + 1, rfl, OwnV.le HO6.out (by omega), HB7.out.1, by omega, by omega, by omega, by omega, HR6.out, HG6.out⟩
      · have S1 := Sl.below (Sl.litN w4 3 [1000, 5] #[.int .i64 1000, .int .i64 5] rfl) ((Below.refl _ _).drew)
        have HB5 := Lib.hid (HB4.out.below (show Below w4.heap.size w4 (w4.alloc (.cells #[.int .i64 1000, .int .i64 5] 3)).drew from ((Below.refl w4.heap.size w4).alloc (Nat.le_refl _) _).drew))
        have HC := Lib.hid (num_any w0 A bs c g (p + 1 + 1 + 1) (some ⟨w4.heap.size, 0, none⟩) [1000, 5] 2 (w4.alloc (.cells #[.int .i64 1000, .int .i64 5] 3)).drew HB5.out.2.2.2.2.1 (by omega) ⟨by simp, by simp⟩ S1 (by intro b o h; simp at h; omega))
        clear S1
        go_wp2_with fail
        go_region_with (go_at_call 56; refine HC.out.mono ?_; rintro e w5 ⟨x, hx, rfl, hR5, hG5⟩; have HB6 := Lib.hid (HB5.out.draw hR5 hG5 hgl hg5); obtain ⟨gl', e9, hglt5, k0, k1, k2, k3, hfz5⟩ := HB6.out.cells hk; have e8 : gl = gl' := (by simp at e9; exact e9); subst e8; have r5 : w5.cell? ⟨g5, 0, none⟩ = some (.int .i64 now) := HB6.out.2.1.cell 0; have r6 : w5.cell? ⟨g5, 1, none⟩ = some (.slice (some ⟨gl, 0, none⟩) l.length c5) := HB6.out.2.1.cell 1; have f5 := hfz5 (k * 4 + 1); have HX := Lib.hid hx; clear hR5 hG5 e9 hx hfz5)
        all_goals
          have HB7 := Lib.hid (LB.poke (k := k) (j := 1) (u := .int .i64 x) HB6.out hgl hg5 (by decide) (yk, yn, yf, yt) (yk, x, yf, yt) HK.out rfl (hky))
          generalize hl2 : l.set k (yk, x, yf, yt) = l2 at *
          have hl2l : l2.length ≤ 61 := by rw [← hl2, List.length_set]; omega
          clear hl2 HB4 HB5 HB6 HC r0 r1 r5 r6 c0 c1 c2' c3 k0 k1 k2 k3 f5 hfz
          generalize w5.setCell ⟨gl, k * 4 + 1, none⟩ (.int .i64 x) = W7 at *
          have hB3 := HB7.out.2.2.1
          have z0 := hB3.frozen 0
          have z1 := hB3.frozen 1
          have x0 : W7.cell? ⟨w.heap.size + 1, 0, none⟩ = some (.int .i64 0) := hB3.cell 0
          have x1 : W7.cell? ⟨w.heap.size + 1, 1, none⟩ = some (.slice none 0 0) := hB3.cell 1
          have r0 : W7.cell? ⟨g5, 0, none⟩ = some (.int .i64 now) := HB7.out.2.1.cell 0
          have r1 : W7.cell? ⟨g5, 1, none⟩ = some (.slice (some ⟨gl, 0, none⟩) l2.length c5) := HB7.out.2.1.cell 1
          obtain ⟨q0, q1⟩ := hB3.two (.int .i64 now) (.slice (some ⟨gl, 0, none⟩) l2.length c5)
          have HO6 := Lib.hid (own_set (own_set HB7.out.2.2.2.1 (p := ⟨w.heap.size + 1, 0, none⟩) (by simp) (.int .i64 now)) (p := ⟨w.heap.size + 1, 1, none⟩) (by simp) (.slice (some ⟨gl, 0, none⟩) l2.length c5))
          have HR6 := Lib.hid ((HB7.out.2.2.2.2.1.farS (p := ⟨w.heap.size + 1, 0, none⟩) (by simp; omega) (by simp; omega) (.int .i64 now)).farS (p := ⟨w.heap.size + 1, 1, none⟩) (by simp; omega) (by simp; omega) (.slice (some ⟨gl, 0, none⟩) l2.length c5))
          have HG6 := Lib.hid (gr_far (p := ⟨w.heap.size + 1, 1, none⟩) (gr_far (p := ⟨w.heap.size + 1, 0, none⟩) HB7.out.2.2.2.2.2 (by simp) (.int .i64 now)) (by simp) (.slice (some ⟨gl, 0, none⟩) l2.length c5))
          clear hB3
          go_wp2
          refine bodyPost_ret (v := .agg #[.int .i64 now, .slice (some ⟨gl, 0, none⟩) l2.length c5]) (by simp [results, Try.results81, go_sem, q0, q1]) rfl ⟨now, l2, _, p + 1 + 1 + 1 + 1, rfl, OwnV.le HO6.out (by omega), HB7.out.1, by omega, by omega, by omega, by omega, HR6.out, HG6.out⟩
end Go.Proofs.Ytpjkcmmmpgncmaa
