import Derived.BigQuiet
import Derived.Test.YtpjkcmmmpgncmaaM03
import Derived.Test.YtpjkcmmmpgncmaaM14
/- The reference's l4Ask: what one asks is drawn. -/
namespace Go.Proofs.Ytpjkcmmmpgncmaa
open Go.RowKit
/-- keys that a string of the machine may hold -/
def AskB (x : AskV) : Prop := x.2.1.size ≤ maxLen ∧ x.2.2.1.size ≤ maxLen
def cellsA (x : AskV) : Array Value := #[.int .i64 x.1, .string x.2.1, .string x.2.2.1, .int .i64 x.2.2.2]
/-- what stands while something to be asked is drawn -/
def AS (w0 w : World) (A : Option Addr) (bs : List UInt8) (c g : Nat) (A2 : Option Addr) (rows : List Row) (h : Nat) (x : AskV) (q : Nat) (W : World) : Prop :=
  Blk W h 128 (cellsA x) ∧ Blk W w.heap.size 128 #[.int .i64 0, .string ⟨#[]⟩, .string ⟨#[]⟩, .int .i64 0] ∧ w.heap.size < h ∧ Rd w0 W A bs c g q ∧ w.grownBy W (some g) ∧ Sl encRow 2 W A2 rows ∧ AskB x
theorem AS.below {w0 w : World} {A : Option Addr} {bs : List UInt8} {c g : Nat} {A2 : Option Addr} {rows : List Row} {h : Nat} {x : AskV} {q : Nat} {W W' : World} (H : AS w0 w A bs c g A2 rows h x q W) (hb : Below W.heap.size W W') : AS w0 w A bs c g A2 rows h x q W' := by
  obtain ⟨h1, h2, h3, h4, h5, h6, h7⟩ := H
  exact ⟨h1.kept hb, h2.kept hb, h3, h4.below hb, gr_trans h5 (gr_below hb), h6.below hb, h7⟩
theorem AS.draw {w0 w : World} {A : Option Addr} {bs : List UInt8} {c g : Nat} {A2 : Option Addr} {rows : List Row} {h : Nat} {x : AskV} {q q' : Nat} {W W' : World} (H : AS w0 w A bs c g A2 rows h x q W) (hR : Rd w0 W' A bs c g q') (hg : W.grownBy W' (some g)) (hgl : g < w.heap.size) (hne : ∀ b o, A2 = some ⟨b, o, none⟩ → b ≠ g) : AS w0 w A bs c g A2 rows h x q' W' := by
  obtain ⟨h1, h2, h3, h4, h5, h6, h7⟩ := H
  exact ⟨h1.grown hg (by simp; omega), h2.grown hg (by simp; omega), h3, hR, gr_trans h5 hg, h6.gr hg (fun b o e h => hne b o e (by injection h)), h7⟩
theorem AS.set {w0 w : World} {A : Option Addr} {bs : List UInt8} {c g : Nat} {A2 : Option Addr} {rows : List Row} {h : Nat} {x : AskV} {q : Nat} {W : World} (H : AS w0 w A bs c g A2 rows h x q W) (i : Nat) (u : Value) (x' : AskV) (hx : (cellsA x).setIfInBounds i u = cellsA x') (hB : AskB x') (hgl : g < w.heap.size) (hA2 : ∀ b o, A2 = some ⟨b, o, none⟩ → b < w.heap.size) : AS w0 w A bs c g A2 rows h x' q (W.setCell ⟨h, i, none⟩ u) := by
  obtain ⟨h1, h2, h3, h4, h5, h6, h7⟩ := H
  have hw0 := h4.2.2.1
  have hg : W.grownBy (W.setCell ⟨h, i, none⟩ u) (some h) := ⟨rfl, rfl, rfl, by rw [World.size_setCell]; exact Nat.le_refl _, fun k _ hne => heap_setCell_other W ⟨h, i, none⟩ k u (fun e => hne (by rw [e]))⟩
  exact ⟨hx ▸ h1.set_ i u, h2.far (by simp; omega) u, h3, h4.farS (by simp; omega) (by simp; omega) u, gr_far h5 (by simp; omega) u, h6.gr hg (fun b o e h' => by have := hA2 b o e; injection h' with h'; omega), hB⟩
/-- what is asked is told -/
theorem AS.fin {w0 w : World} {A : Option Addr} {bs : List UInt8} {c g : Nat} {A2 : Option Addr} {rows : List Row} {h : Nat} {x : AskV} {q : Nat} {W : World} (H : AS w0 w A bs c g A2 rows h x q W) (hgl : g < w.heap.size) (u0 u1 u2 u3 : Value) : Rd w0 ((((W.setCell ⟨w.heap.size, 0, none⟩ u0).setCell ⟨w.heap.size, 1, none⟩ u1).setCell ⟨w.heap.size, 2, none⟩ u2).setCell ⟨w.heap.size, 3, none⟩ u3) A bs c g q ∧ w.grownBy ((((W.setCell ⟨w.heap.size, 0, none⟩ u0).setCell ⟨w.heap.size, 1, none⟩ u1).setCell ⟨w.heap.size, 2, none⟩ u2).setCell ⟨w.heap.size, 3, none⟩ u3) (some g) := by
  obtain ⟨h1, h2, h3, h4, h5, h6, h7⟩ := H
  have hw0 := h4.2.2.1
  have hl : w0.heap.size ≤ w.heap.size := by omega
  have hn : g ≠ w.heap.size := by omega
  exact ⟨(((h4.farS (p := ⟨w.heap.size, 0, none⟩) hn hl u0).farS (p := ⟨w.heap.size, 1, none⟩) hn hl u1).farS (p := ⟨w.heap.size, 2, none⟩) hn hl u2).farS (p := ⟨w.heap.size, 3, none⟩) hn hl u3, gr_far (gr_far (gr_far (gr_far h5 (p := ⟨w.heap.size, 0, none⟩) (Nat.le_refl _) u0) (p := ⟨w.heap.size, 1, none⟩) (Nat.le_refl _) u1) (p := ⟨w.heap.size, 2, none⟩) (Nat.le_refl _) u2) (p := ⟨w.heap.size, 3, none⟩) (Nat.le_refl _) u3⟩
theorem AS.askB {w0 w : World} {A : Option Addr} {bs : List UInt8} {c g : Nat} {A2 : Option Addr} {rows : List Row} {h : Nat} {x : AskV} {q : Nat} {W : World} (H : AS w0 w A bs c g A2 rows h x q W) : AskB x := H.2.2.2.2.2.2
theorem AS.cells {w0 w : World} {A : Option Addr} {bs : List UInt8} {c g : Nat} {A2 : Option Addr} {rows : List Row} {h : Nat} {x : AskV} {q : Nat} {W : World} (H : AS w0 w A bs c g A2 rows h x q W) :
    W.cell? ⟨h, 0, none⟩ = some (.int .i64 x.1) ∧ W.cell? ⟨h, 1, none⟩ = some (.string x.2.1) ∧ W.cell? ⟨h, 2, none⟩ = some (.string x.2.2.1) ∧ W.cell? ⟨h, 3, none⟩ = some (.int .i64 x.2.2.2) :=
  ⟨H.1.cell 0, H.1.cell 1, H.1.cell 2, H.1.cell 3⟩
/-- how l4Ask leaves -/
def AskDPost (w0 w : World) (A : Option Addr) (bs : List UInt8) (c g p : Nat) (e : Ending) (w' : World) : Prop :=
  ∃ (x : AskV) (q : Nat), e = .returned (.agg #[.int .i64 x.1, .string x.2.1, .string x.2.2.1, .int .i64 x.2.2.2]) ∧ AskB x ∧ q ≤ p + 40 ∧ Rd w0 w' A bs c g q ∧ w.grownBy w' (some g)
def kindOf : List Int := [1, 1, 2, 3, 4, 4, 4, 5, 5, 6, 7, 7, 8, 8, 9]
def kindBad : List Int := [0, 10, -1]
def hiOf : List ByteArray := [⟨#[122]⟩, ⟨#[99]⟩, ⟨#[122, 122]⟩, ⟨#[98]⟩, ⟨#[97]⟩]
theorem hiOf_le : ∀ x ∈ hiOf, x.size ≤ 2 := by decide
set_option maxRecDepth 100000 in
set_option maxHeartbeats 8000000 in
theorem l4Ask_any (w0 : World) (A : Option Addr) (bs : List UInt8) (c g p : Nat) (A2 : Option Addr) (rows : List Row) (c2 : Nat) (w : World) (hR : Rd w0 w A bs c g p) (hp : p < 800000) (hl : rows.length ≤ 1000) (hk : ∀ x ∈ rows, x.1.size ≤ maxLen) (hS : Sl encRow 2 w A2 rows) (hne2 : ∀ b o, A2 = some ⟨b, o, none⟩ → b ≠ g ∧ b < w.heap.size) :
    Calls Try.prog 160 #[.pointer (some ⟨g, 0, none⟩), .slice A2 rows.length c2] w (AskDPost w0 w A bs c g p) := by
  have hgl := hR.1.lt
  have HK := Lib.hid hk
  have HA2 := Lib.hid (fun b o e => (hne2 b o e).2)
  have HNE := Lib.hid (fun b o e => (hne2 b o e).1)
  have hb0 := (Below.refl w.heap.size w).alloc (Nat.le_refl _) (.cells #[.int .i64 0, .string ⟨#[]⟩, .string ⟨#[]⟩, .int .i64 0] 128)
  have hZ := Blk.new w 128 #[.int .i64 0, .string ⟨#[]⟩, .string ⟨#[]⟩, .int .i64 0]
  have HR1 := Lib.hid (hR.below hb0)
  have HS1 := Lib.hid (hS.below hb0)
  have hs1 : (w.alloc (.cells #[.int .i64 0, .string ⟨#[]⟩, .string ⟨#[]⟩, .int .i64 0] 128)).heap.size = w.heap.size + 1 := by simp
  clear hk hR hne2 hS
  go_enter Try.func160, Try.ntmps160
  go_wp2_with fail
  generalize w.alloc (.cells #[.int .i64 0, .string ⟨#[]⟩, .string ⟨#[]⟩, .int .i64 0] 128) = w1 at *
  have S1 := Sl.litN w1 3 kindOf #[.int .i64 1, .int .i64 1, .int .i64 2, .int .i64 3, .int .i64 4, .int .i64 4, .int .i64 4, .int .i64 5, .int .i64 5, .int .i64 6, .int .i64 7, .int .i64 7, .int .i64 8, .int .i64 8, .int .i64 9] rfl
  have hwn := (Below.refl w1.heap.size w1).alloc (Nat.le_refl _) (.cells #[.int .i64 1, .int .i64 1, .int .i64 2, .int .i64 3, .int .i64 4, .int .i64 4, .int .i64 4, .int .i64 5, .int .i64 5, .int .i64 6, .int .i64 7, .int .i64 7, .int .i64 8, .int .i64 8, .int .i64 9] 3)
  rw [hs1] at S1
  refine (num_any w0 A bs c g p (some ⟨w.heap.size + 1, 0, none⟩) kindOf 15 _ (HR1.out.below hwn) (by omega) (by decide) S1 (by intro b o h; simp at h; omega)).mono ?_
  rintro e w2 ⟨k0, hk0, rfl, hR2, hG2⟩
  have hG := gr_trans (gr_below (bthen hb0 hwn)) hG2
  have hne : some w.heap.size ≠ some g := by simp; omega
  have hZ2 := (hZ.kept hwn).grown hG2 hne
  have hS2 := (HS1.out.below hwn).gr hG2 (fun b o e h => HNE.out b o e (by injection h))
  have hlt := hZ2.lt
  have hb3 := (Below.refl w2.heap.size w2).alloc (Nat.le_refl _) (.cells #[.int .i64 k0, .string ⟨#[]⟩, .string ⟨#[]⟩, .int .i64 0] 128)
  have HW3 := Lib.hid (show AS w0 w A bs c g A2 rows w2.heap.size (k0, ⟨#[]⟩, ⟨#[]⟩, 0) (p + 1) (w2.alloc (.cells #[.int .i64 k0, .string ⟨#[]⟩, .string ⟨#[]⟩, .int .i64 0] 128)) from ⟨Blk.new _ _ _, hZ2.kept hb3, hlt, hR2.below hb3, gr_trans hG (gr_below hb3), hS2.below hb3, ⟨Nat.zero_le _, Nat.zero_le _⟩⟩)
  clear S1 hwn hk0 hR2 hG2 hG hZ hZ2 hS2 hb0 HR1 HS1 hb3
  obtain ⟨x0, -, -, -⟩ := HW3.out.cells
  simp only at x0
  go_wp2_with fail
  generalize w2.alloc (.cells #[.int .i64 k0, .string ⟨#[]⟩, .string ⟨#[]⟩, .int .i64 0] 128) = w3 at *
  refine (l4Shape_any k0 _).mono ?_
  rintro e w4 ⟨rfl, hb4⟩
  have HW4 := Lib.hid (HW3.out.below hb4)
  generalize w2.heap.size = h at *
  generalize shapeK k0 = s at *
  obtain ⟨s1, s2, s3⟩ := s
  clear hb4 HW3 x0 hs1
  cases s1
  case false =>
    cases s2
    case false =>
      cases s3
      case false =>
        go_wp2_with fail
        refine (pick_any w0 A bs c g (p + 1) 64 _ HW4.out.2.2.2.1 (by omega) (by omega)).mono ?_
        rintro e v1 ⟨j, hj, rfl, hR5, hG5⟩
        have HT2 := Lib.hid (HW4.out.draw hR5 hG5 hgl HNE.out)
        have HB5 := Lib.hid (HW4.out.2.2.2.2.2.2)
        clear HW4 hR5 hG5
        have hlh := HT2.out.2.2.1
        have hlw := HT2.out.2.1.lt
        have hlH := HT2.out.1.lt
        rcases (show j = 0 ∨ j = 1 ∨ j = 2 ∨ j = 3 ∨ 4 ≤ j by omega) with rfl | rfl | rfl | rfl | hj4
        · clear hj
          go_wp2_with fail
          have S9 := Sl.litN v1 3 kindBad #[.int .i64 0, .int .i64 10, .int .i64 (-1)] rfl
          have HW9 := Lib.hid (HT2.out.below ((Below.refl v1.heap.size v1).alloc (Nat.le_refl _) (.cells #[.int .i64 0, .int .i64 10, .int .i64 (-1)] 3)))
          have hg9 := HT2.out.2.2.2.1.1.lt
          refine (num_any w0 A bs c g ((p + 1) + 1) _ kindBad 3 _ HW9.out.2.2.2.1 (by omega) (by decide) S9 (by intro b o h; simp at h; omega)).mono ?_
          rintro e v3 ⟨k9, -, rfl, hR9, hG9⟩
          have HT4 := Lib.hid (HW9.out.draw hR9 hG9 hgl HNE.out)
          have hlw := HT4.out.2.1.lt
          have hlH := HT4.out.1.lt
          clear hR9 hG9 HW9 S9 hg9 HT2
          obtain ⟨t0, t1, t2, t3⟩ := HT4.out.cells
          have r0 : v3.frozen? ⟨w.heap.size, 0, none⟩ = false := HT4.out.2.1.frozen 0
          have r1 : v3.frozen? ⟨w.heap.size, 1, none⟩ = false := HT4.out.2.1.frozen 1
          have r2 : v3.frozen? ⟨w.heap.size, 2, none⟩ = false := HT4.out.2.1.frozen 2
          have r3 : v3.frozen? ⟨w.heap.size, 3, none⟩ = false := HT4.out.2.1.frozen 3
          have y0 : v3.cell? ⟨w.heap.size, 0, none⟩ = some (.int .i64 0) := HT4.out.2.1.cell 0
          have y1 : v3.cell? ⟨w.heap.size, 1, none⟩ = some (.string ⟨#[]⟩) := HT4.out.2.1.cell 1
          have y2 : v3.cell? ⟨w.heap.size, 2, none⟩ = some (.string ⟨#[]⟩) := HT4.out.2.1.cell 2
          have y3 : v3.cell? ⟨w.heap.size, 3, none⟩ = some (.int .i64 0) := HT4.out.2.1.cell 3
          simp only at t0 t1 t2 t3
          have hne : w.heap.size ≠ h := by have := HT4.out.2.2.1; omega
          have hne2 : h ≠ w.heap.size := by omega
          have z0 := HT4.out.1.frozen 0
          have HF := Lib.hid (AS.fin (HT4.out.set 0 (.int .i64 k9) (k9, ⟨#[]⟩, ⟨#[]⟩, 0) rfl HT4.out.2.2.2.2.2.2 hgl HA2.out) hgl (.int .i64 (k9)) (.string ⟨#[]⟩) (.string ⟨#[]⟩) (.int .i64 (0)))
          have HB := Lib.hid (AS.askB (HT4.out.set 0 (.int .i64 k9) (k9, ⟨#[]⟩, ⟨#[]⟩, 0) rfl HT4.out.2.2.2.2.2.2 hgl HA2.out))
          go_wp2
          refine bodyPost_ret (v := .agg #[.int .i64 (k9), .string ⟨#[]⟩, .string ⟨#[]⟩, .int .i64 (0)]) ?_ rfl ⟨(k9, ⟨#[]⟩, ⟨#[]⟩, 0), ((p + 1) + 1 + 1), rfl, HB.out, by omega, HF.out.1, HF.out.2⟩
          simp [results, Try.results160, go_sem, y0, y1, y2, y3]
        · clear hj
          obtain ⟨t0, t1, t2, t3⟩ := HT2.out.cells
          have r0 : v1.frozen? ⟨w.heap.size, 0, none⟩ = false := HT2.out.2.1.frozen 0
          have r1 : v1.frozen? ⟨w.heap.size, 1, none⟩ = false := HT2.out.2.1.frozen 1
          have r2 : v1.frozen? ⟨w.heap.size, 2, none⟩ = false := HT2.out.2.1.frozen 2
          have r3 : v1.frozen? ⟨w.heap.size, 3, none⟩ = false := HT2.out.2.1.frozen 3
          have y0 : v1.cell? ⟨w.heap.size, 0, none⟩ = some (.int .i64 0) := HT2.out.2.1.cell 0
          have y1 : v1.cell? ⟨w.heap.size, 1, none⟩ = some (.string ⟨#[]⟩) := HT2.out.2.1.cell 1
          have y2 : v1.cell? ⟨w.heap.size, 2, none⟩ = some (.string ⟨#[]⟩) := HT2.out.2.1.cell 2
          have y3 : v1.cell? ⟨w.heap.size, 3, none⟩ = some (.int .i64 0) := HT2.out.2.1.cell 3
          simp only at t0 t1 t2 t3
          have hne : w.heap.size ≠ h := by have := HT2.out.2.2.1; omega
          have hne2 : h ≠ w.heap.size := by omega
          have z2 := HT2.out.1.frozen 2
          have HF := Lib.hid (AS.fin (HT2.out.set 2 (.string ⟨#[98]⟩) (k0, ⟨#[]⟩, ⟨#[98]⟩, 0) rfl ⟨HB5.out.1, Nat.le_trans (by decide : (⟨#[98]⟩ : ByteArray).size ≤ 1) (by decide)⟩ hgl HA2.out) hgl (.int .i64 (k0)) (.string ⟨#[]⟩) (.string ⟨#[98]⟩) (.int .i64 (0)))
          have HB := Lib.hid (AS.askB (HT2.out.set 2 (.string ⟨#[98]⟩) (k0, ⟨#[]⟩, ⟨#[98]⟩, 0) rfl ⟨HB5.out.1, Nat.le_trans (by decide : (⟨#[98]⟩ : ByteArray).size ≤ 1) (by decide)⟩ hgl HA2.out))
          go_wp2
          refine bodyPost_ret (v := .agg #[.int .i64 (k0), .string ⟨#[]⟩, .string ⟨#[98]⟩, .int .i64 (0)]) ?_ rfl ⟨(k0, ⟨#[]⟩, ⟨#[98]⟩, 0), ((p + 1) + 1), rfl, HB.out, by omega, HF.out.1, HF.out.2⟩
          simp [results, Try.results160, go_sem, y0, y1, y2, y3]
        · clear hj
          obtain ⟨t0, t1, t2, t3⟩ := HT2.out.cells
          have r0 : v1.frozen? ⟨w.heap.size, 0, none⟩ = false := HT2.out.2.1.frozen 0
          have r1 : v1.frozen? ⟨w.heap.size, 1, none⟩ = false := HT2.out.2.1.frozen 1
          have r2 : v1.frozen? ⟨w.heap.size, 2, none⟩ = false := HT2.out.2.1.frozen 2
          have r3 : v1.frozen? ⟨w.heap.size, 3, none⟩ = false := HT2.out.2.1.frozen 3
          have y0 : v1.cell? ⟨w.heap.size, 0, none⟩ = some (.int .i64 0) := HT2.out.2.1.cell 0
          have y1 : v1.cell? ⟨w.heap.size, 1, none⟩ = some (.string ⟨#[]⟩) := HT2.out.2.1.cell 1
          have y2 : v1.cell? ⟨w.heap.size, 2, none⟩ = some (.string ⟨#[]⟩) := HT2.out.2.1.cell 2
          have y3 : v1.cell? ⟨w.heap.size, 3, none⟩ = some (.int .i64 0) := HT2.out.2.1.cell 3
          simp only at t0 t1 t2 t3
          have hne : w.heap.size ≠ h := by have := HT2.out.2.2.1; omega
          have hne2 : h ≠ w.heap.size := by omega
          have z3 := HT2.out.1.frozen 3
          have HF := Lib.hid (AS.fin (HT2.out.set 3 (.int .i64 5) (k0, ⟨#[]⟩, ⟨#[]⟩, 5) rfl HB5.out hgl HA2.out) hgl (.int .i64 (k0)) (.string ⟨#[]⟩) (.string ⟨#[]⟩) (.int .i64 (5)))
          have HB := Lib.hid (AS.askB (HT2.out.set 3 (.int .i64 5) (k0, ⟨#[]⟩, ⟨#[]⟩, 5) rfl HB5.out hgl HA2.out))
          go_wp2
          refine bodyPost_ret (v := .agg #[.int .i64 (k0), .string ⟨#[]⟩, .string ⟨#[]⟩, .int .i64 (5)]) ?_ rfl ⟨(k0, ⟨#[]⟩, ⟨#[]⟩, 5), ((p + 1) + 1), rfl, HB.out, by omega, HF.out.1, HF.out.2⟩
          simp [results, Try.results160, go_sem, y0, y1, y2, y3]
        · clear hj
          obtain ⟨t0, t1, t2, t3⟩ := HT2.out.cells
          have r0 : v1.frozen? ⟨w.heap.size, 0, none⟩ = false := HT2.out.2.1.frozen 0
          have r1 : v1.frozen? ⟨w.heap.size, 1, none⟩ = false := HT2.out.2.1.frozen 1
          have r2 : v1.frozen? ⟨w.heap.size, 2, none⟩ = false := HT2.out.2.1.frozen 2
          have r3 : v1.frozen? ⟨w.heap.size, 3, none⟩ = false := HT2.out.2.1.frozen 3
          have y0 : v1.cell? ⟨w.heap.size, 0, none⟩ = some (.int .i64 0) := HT2.out.2.1.cell 0
          have y1 : v1.cell? ⟨w.heap.size, 1, none⟩ = some (.string ⟨#[]⟩) := HT2.out.2.1.cell 1
          have y2 : v1.cell? ⟨w.heap.size, 2, none⟩ = some (.string ⟨#[]⟩) := HT2.out.2.1.cell 2
          have y3 : v1.cell? ⟨w.heap.size, 3, none⟩ = some (.int .i64 0) := HT2.out.2.1.cell 3
          simp only at t0 t1 t2 t3
          have hne : w.heap.size ≠ h := by have := HT2.out.2.2.1; omega
          have hne2 : h ≠ w.heap.size := by omega
          have z1 := HT2.out.1.frozen 1
          have HF := Lib.hid (AS.fin (HT2.out.set 1 (.string ⟨#[]⟩) (k0, ⟨#[]⟩, ⟨#[]⟩, 0) rfl ⟨Nat.zero_le _, HB5.out.2⟩ hgl HA2.out) hgl (.int .i64 (k0)) (.string ⟨#[]⟩) (.string ⟨#[]⟩) (.int .i64 (0)))
          have HB := Lib.hid (AS.askB (HT2.out.set 1 (.string ⟨#[]⟩) (k0, ⟨#[]⟩, ⟨#[]⟩, 0) rfl ⟨Nat.zero_le _, HB5.out.2⟩ hgl HA2.out))
          go_wp2
          refine bodyPost_ret (v := .agg #[.int .i64 (k0), .string ⟨#[]⟩, .string ⟨#[]⟩, .int .i64 (0)]) ?_ rfl ⟨(k0, ⟨#[]⟩, ⟨#[]⟩, 0), ((p + 1) + 1), rfl, HB.out, by omega, HF.out.1, HF.out.2⟩
          simp [results, Try.results160, go_sem, y0, y1, y2, y3]
        · have e0 : (((j : Nat) : Int) == 0) = false := beq_eq_false_iff_ne.2 (by omega)
          have e1 : (((j : Nat) : Int) == 1) = false := beq_eq_false_iff_ne.2 (by omega)
          have e2 : (((j : Nat) : Int) == 2) = false := beq_eq_false_iff_ne.2 (by omega)
          have e3 : (((j : Nat) : Int) == 3) = false := beq_eq_false_iff_ne.2 (by omega)
          have n0 : ¬ ((j : Nat) : Int) = 0 := by omega
          have n1 : ¬ ((j : Nat) : Int) = 1 := by omega
          have n2 : ¬ ((j : Nat) : Int) = 2 := by omega
          have n3 : ¬ ((j : Nat) : Int) = 3 := by omega
          obtain ⟨t0, t1, t2, t3⟩ := HT2.out.cells
          have r0 : v1.frozen? ⟨w.heap.size, 0, none⟩ = false := HT2.out.2.1.frozen 0
          have r1 : v1.frozen? ⟨w.heap.size, 1, none⟩ = false := HT2.out.2.1.frozen 1
          have r2 : v1.frozen? ⟨w.heap.size, 2, none⟩ = false := HT2.out.2.1.frozen 2
          have r3 : v1.frozen? ⟨w.heap.size, 3, none⟩ = false := HT2.out.2.1.frozen 3
          have y0 : v1.cell? ⟨w.heap.size, 0, none⟩ = some (.int .i64 0) := HT2.out.2.1.cell 0
          have y1 : v1.cell? ⟨w.heap.size, 1, none⟩ = some (.string ⟨#[]⟩) := HT2.out.2.1.cell 1
          have y2 : v1.cell? ⟨w.heap.size, 2, none⟩ = some (.string ⟨#[]⟩) := HT2.out.2.1.cell 2
          have y3 : v1.cell? ⟨w.heap.size, 3, none⟩ = some (.int .i64 0) := HT2.out.2.1.cell 3
          simp only at t0 t1 t2 t3
          have hne : w.heap.size ≠ h := by have := HT2.out.2.2.1; omega
          have hne2 : h ≠ w.heap.size := by omega
          have HF := Lib.hid (AS.fin HT2.out hgl (.int .i64 (k0)) (.string ⟨#[]⟩) (.string ⟨#[]⟩) (.int .i64 (0)))
          have HB := Lib.hid (AS.askB HT2.out)
          go_wp2
          refine bodyPost_ret (v := .agg #[.int .i64 (k0), .string ⟨#[]⟩, .string ⟨#[]⟩, .int .i64 (0)]) ?_ rfl ⟨(k0, ⟨#[]⟩, ⟨#[]⟩, 0), ((p + 1) + 1), rfl, HB.out, by omega, HF.out.1, HF.out.2⟩
          simp [results, Try.results160, go_sem, y0, y1, y2, y3]
      case true =>
        go_wp2_with fail
        refine (l1Value_any w0 A bs c g (p + 1) _ HW4.out.2.2.2.1 (by omega)).mono ?_
        rintro e v5 ⟨d7, q8, rfl, hq8, hRd7, hGd7⟩
        have HD6 := Lib.hid (HW4.out.draw hRd7 hGd7 hgl HNE.out)
        have z9 := HD6.out.1.frozen 3
        have z9c := HD6.out.cells
        obtain ⟨z90, z91, z92, z93⟩ := z9c
        simp only at z90 z91 z92 z93
        have HS10 := Lib.hid (HD6.out.set 3 (.int .i64 d7) (k0, ⟨#[]⟩, ⟨#[]⟩, d7) rfl HD6.out.2.2.2.2.2.2 hgl HA2.out)
        have hzz9 : (v5.setCell ⟨h, 3, none⟩ (.int .i64 d7)).heap.size = v5.heap.size := World.size_setCell _ _ _
        clear hRd7 hGd7
        go_wp2_with fail
        generalize v5.setCell ⟨h, 3, none⟩ (.int .i64 d7) = u11 at *
        refine (pick_any w0 A bs c g q8 64 _ HS10.out.2.2.2.1 (by omega) (by omega)).mono ?_
        rintro e v12 ⟨j, hj, rfl, hR5, hG5⟩
        have HT13 := Lib.hid (HS10.out.draw hR5 hG5 hgl HNE.out)
        have HB5 := Lib.hid (HS10.out.2.2.2.2.2.2)
        clear HS10 hR5 hG5
        have hlh := HT13.out.2.2.1
        have hlw := HT13.out.2.1.lt
        have hlH := HT13.out.1.lt
        rcases (show j = 0 ∨ j = 1 ∨ j = 2 ∨ j = 3 ∨ 4 ≤ j by omega) with rfl | rfl | rfl | rfl | hj4
        · clear hj
          go_wp2_with fail
          have S9 := Sl.litN v12 3 kindBad #[.int .i64 0, .int .i64 10, .int .i64 (-1)] rfl
          have HW9 := Lib.hid (HT13.out.below ((Below.refl v12.heap.size v12).alloc (Nat.le_refl _) (.cells #[.int .i64 0, .int .i64 10, .int .i64 (-1)] 3)))
          have hg9 := HT13.out.2.2.2.1.1.lt
          refine (num_any w0 A bs c g (q8 + 1) _ kindBad 3 _ HW9.out.2.2.2.1 (by omega) (by decide) S9 (by intro b o h; simp at h; omega)).mono ?_
          rintro e v14 ⟨k9, -, rfl, hR9, hG9⟩
          have HT15 := Lib.hid (HW9.out.draw hR9 hG9 hgl HNE.out)
          have hlw := HT15.out.2.1.lt
          have hlH := HT15.out.1.lt
          clear hR9 hG9 HW9 S9 hg9 HT13
          obtain ⟨t0, t1, t2, t3⟩ := HT15.out.cells
          have r0 : v14.frozen? ⟨w.heap.size, 0, none⟩ = false := HT15.out.2.1.frozen 0
          have r1 : v14.frozen? ⟨w.heap.size, 1, none⟩ = false := HT15.out.2.1.frozen 1
          have r2 : v14.frozen? ⟨w.heap.size, 2, none⟩ = false := HT15.out.2.1.frozen 2
          have r3 : v14.frozen? ⟨w.heap.size, 3, none⟩ = false := HT15.out.2.1.frozen 3
          have y0 : v14.cell? ⟨w.heap.size, 0, none⟩ = some (.int .i64 0) := HT15.out.2.1.cell 0
          have y1 : v14.cell? ⟨w.heap.size, 1, none⟩ = some (.string ⟨#[]⟩) := HT15.out.2.1.cell 1
          have y2 : v14.cell? ⟨w.heap.size, 2, none⟩ = some (.string ⟨#[]⟩) := HT15.out.2.1.cell 2
          have y3 : v14.cell? ⟨w.heap.size, 3, none⟩ = some (.int .i64 0) := HT15.out.2.1.cell 3
          simp only at t0 t1 t2 t3
          have hne : w.heap.size ≠ h := by have := HT15.out.2.2.1; omega
          have hne2 : h ≠ w.heap.size := by omega
          have z0 := HT15.out.1.frozen 0
          have HF := Lib.hid (AS.fin (HT15.out.set 0 (.int .i64 k9) (k9, ⟨#[]⟩, ⟨#[]⟩, d7) rfl HT15.out.2.2.2.2.2.2 hgl HA2.out) hgl (.int .i64 (k9)) (.string ⟨#[]⟩) (.string ⟨#[]⟩) (.int .i64 (d7)))
          have HB := Lib.hid (AS.askB (HT15.out.set 0 (.int .i64 k9) (k9, ⟨#[]⟩, ⟨#[]⟩, d7) rfl HT15.out.2.2.2.2.2.2 hgl HA2.out))
          go_wp2
          refine bodyPost_ret (v := .agg #[.int .i64 (k9), .string ⟨#[]⟩, .string ⟨#[]⟩, .int .i64 (d7)]) ?_ rfl ⟨(k9, ⟨#[]⟩, ⟨#[]⟩, d7), (q8 + 1 + 1), rfl, HB.out, by omega, HF.out.1, HF.out.2⟩
          simp [results, Try.results160, go_sem, y0, y1, y2, y3]
        · clear hj
          obtain ⟨t0, t1, t2, t3⟩ := HT13.out.cells
          have r0 : v12.frozen? ⟨w.heap.size, 0, none⟩ = false := HT13.out.2.1.frozen 0
          have r1 : v12.frozen? ⟨w.heap.size, 1, none⟩ = false := HT13.out.2.1.frozen 1
          have r2 : v12.frozen? ⟨w.heap.size, 2, none⟩ = false := HT13.out.2.1.frozen 2
          have r3 : v12.frozen? ⟨w.heap.size, 3, none⟩ = false := HT13.out.2.1.frozen 3
          have y0 : v12.cell? ⟨w.heap.size, 0, none⟩ = some (.int .i64 0) := HT13.out.2.1.cell 0
          have y1 : v12.cell? ⟨w.heap.size, 1, none⟩ = some (.string ⟨#[]⟩) := HT13.out.2.1.cell 1
          have y2 : v12.cell? ⟨w.heap.size, 2, none⟩ = some (.string ⟨#[]⟩) := HT13.out.2.1.cell 2
          have y3 : v12.cell? ⟨w.heap.size, 3, none⟩ = some (.int .i64 0) := HT13.out.2.1.cell 3
          simp only at t0 t1 t2 t3
          have hne : w.heap.size ≠ h := by have := HT13.out.2.2.1; omega
          have hne2 : h ≠ w.heap.size := by omega
          have z2 := HT13.out.1.frozen 2
          have HF := Lib.hid (AS.fin (HT13.out.set 2 (.string ⟨#[98]⟩) (k0, ⟨#[]⟩, ⟨#[98]⟩, d7) rfl ⟨HB5.out.1, Nat.le_trans (by decide : (⟨#[98]⟩ : ByteArray).size ≤ 1) (by decide)⟩ hgl HA2.out) hgl (.int .i64 (k0)) (.string ⟨#[]⟩) (.string ⟨#[98]⟩) (.int .i64 (d7)))
          have HB := Lib.hid (AS.askB (HT13.out.set 2 (.string ⟨#[98]⟩) (k0, ⟨#[]⟩, ⟨#[98]⟩, d7) rfl ⟨HB5.out.1, Nat.le_trans (by decide : (⟨#[98]⟩ : ByteArray).size ≤ 1) (by decide)⟩ hgl HA2.out))
          go_wp2
          refine bodyPost_ret (v := .agg #[.int .i64 (k0), .string ⟨#[]⟩, .string ⟨#[98]⟩, .int .i64 (d7)]) ?_ rfl ⟨(k0, ⟨#[]⟩, ⟨#[98]⟩, d7), (q8 + 1), rfl, HB.out, by omega, HF.out.1, HF.out.2⟩
          simp [results, Try.results160, go_sem, y0, y1, y2, y3]
        · clear hj
          obtain ⟨t0, t1, t2, t3⟩ := HT13.out.cells
          have r0 : v12.frozen? ⟨w.heap.size, 0, none⟩ = false := HT13.out.2.1.frozen 0
          have r1 : v12.frozen? ⟨w.heap.size, 1, none⟩ = false := HT13.out.2.1.frozen 1
          have r2 : v12.frozen? ⟨w.heap.size, 2, none⟩ = false := HT13.out.2.1.frozen 2
          have r3 : v12.frozen? ⟨w.heap.size, 3, none⟩ = false := HT13.out.2.1.frozen 3
          have y0 : v12.cell? ⟨w.heap.size, 0, none⟩ = some (.int .i64 0) := HT13.out.2.1.cell 0
          have y1 : v12.cell? ⟨w.heap.size, 1, none⟩ = some (.string ⟨#[]⟩) := HT13.out.2.1.cell 1
          have y2 : v12.cell? ⟨w.heap.size, 2, none⟩ = some (.string ⟨#[]⟩) := HT13.out.2.1.cell 2
          have y3 : v12.cell? ⟨w.heap.size, 3, none⟩ = some (.int .i64 0) := HT13.out.2.1.cell 3
          simp only at t0 t1 t2 t3
          have hne : w.heap.size ≠ h := by have := HT13.out.2.2.1; omega
          have hne2 : h ≠ w.heap.size := by omega
          have z3 := HT13.out.1.frozen 3
          have HF := Lib.hid (AS.fin (HT13.out.set 3 (.int .i64 5) (k0, ⟨#[]⟩, ⟨#[]⟩, 5) rfl HB5.out hgl HA2.out) hgl (.int .i64 (k0)) (.string ⟨#[]⟩) (.string ⟨#[]⟩) (.int .i64 (5)))
          have HB := Lib.hid (AS.askB (HT13.out.set 3 (.int .i64 5) (k0, ⟨#[]⟩, ⟨#[]⟩, 5) rfl HB5.out hgl HA2.out))
          go_wp2
          refine bodyPost_ret (v := .agg #[.int .i64 (k0), .string ⟨#[]⟩, .string ⟨#[]⟩, .int .i64 (5)]) ?_ rfl ⟨(k0, ⟨#[]⟩, ⟨#[]⟩, 5), (q8 + 1), rfl, HB.out, by omega, HF.out.1, HF.out.2⟩
          simp [results, Try.results160, go_sem, y0, y1, y2, y3]
        · clear hj
          obtain ⟨t0, t1, t2, t3⟩ := HT13.out.cells
          have r0 : v12.frozen? ⟨w.heap.size, 0, none⟩ = false := HT13.out.2.1.frozen 0
          have r1 : v12.frozen? ⟨w.heap.size, 1, none⟩ = false := HT13.out.2.1.frozen 1
          have r2 : v12.frozen? ⟨w.heap.size, 2, none⟩ = false := HT13.out.2.1.frozen 2
          have r3 : v12.frozen? ⟨w.heap.size, 3, none⟩ = false := HT13.out.2.1.frozen 3
          have y0 : v12.cell? ⟨w.heap.size, 0, none⟩ = some (.int .i64 0) := HT13.out.2.1.cell 0
          have y1 : v12.cell? ⟨w.heap.size, 1, none⟩ = some (.string ⟨#[]⟩) := HT13.out.2.1.cell 1
          have y2 : v12.cell? ⟨w.heap.size, 2, none⟩ = some (.string ⟨#[]⟩) := HT13.out.2.1.cell 2
          have y3 : v12.cell? ⟨w.heap.size, 3, none⟩ = some (.int .i64 0) := HT13.out.2.1.cell 3
          simp only at t0 t1 t2 t3
          have hne : w.heap.size ≠ h := by have := HT13.out.2.2.1; omega
          have hne2 : h ≠ w.heap.size := by omega
          have z1 := HT13.out.1.frozen 1
          have HF := Lib.hid (AS.fin (HT13.out.set 1 (.string ⟨#[]⟩) (k0, ⟨#[]⟩, ⟨#[]⟩, d7) rfl ⟨Nat.zero_le _, HB5.out.2⟩ hgl HA2.out) hgl (.int .i64 (k0)) (.string ⟨#[]⟩) (.string ⟨#[]⟩) (.int .i64 (d7)))
          have HB := Lib.hid (AS.askB (HT13.out.set 1 (.string ⟨#[]⟩) (k0, ⟨#[]⟩, ⟨#[]⟩, d7) rfl ⟨Nat.zero_le _, HB5.out.2⟩ hgl HA2.out))
          go_wp2
          refine bodyPost_ret (v := .agg #[.int .i64 (k0), .string ⟨#[]⟩, .string ⟨#[]⟩, .int .i64 (d7)]) ?_ rfl ⟨(k0, ⟨#[]⟩, ⟨#[]⟩, d7), (q8 + 1), rfl, HB.out, by omega, HF.out.1, HF.out.2⟩
          simp [results, Try.results160, go_sem, y0, y1, y2, y3]
        · have e0 : (((j : Nat) : Int) == 0) = false := beq_eq_false_iff_ne.2 (by omega)
          have e1 : (((j : Nat) : Int) == 1) = false := beq_eq_false_iff_ne.2 (by omega)
          have e2 : (((j : Nat) : Int) == 2) = false := beq_eq_false_iff_ne.2 (by omega)
          have e3 : (((j : Nat) : Int) == 3) = false := beq_eq_false_iff_ne.2 (by omega)
          have n0 : ¬ ((j : Nat) : Int) = 0 := by omega
          have n1 : ¬ ((j : Nat) : Int) = 1 := by omega
          have n2 : ¬ ((j : Nat) : Int) = 2 := by omega
          have n3 : ¬ ((j : Nat) : Int) = 3 := by omega
          obtain ⟨t0, t1, t2, t3⟩ := HT13.out.cells
          have r0 : v12.frozen? ⟨w.heap.size, 0, none⟩ = false := HT13.out.2.1.frozen 0
          have r1 : v12.frozen? ⟨w.heap.size, 1, none⟩ = false := HT13.out.2.1.frozen 1
          have r2 : v12.frozen? ⟨w.heap.size, 2, none⟩ = false := HT13.out.2.1.frozen 2
          have r3 : v12.frozen? ⟨w.heap.size, 3, none⟩ = false := HT13.out.2.1.frozen 3
          have y0 : v12.cell? ⟨w.heap.size, 0, none⟩ = some (.int .i64 0) := HT13.out.2.1.cell 0
          have y1 : v12.cell? ⟨w.heap.size, 1, none⟩ = some (.string ⟨#[]⟩) := HT13.out.2.1.cell 1
          have y2 : v12.cell? ⟨w.heap.size, 2, none⟩ = some (.string ⟨#[]⟩) := HT13.out.2.1.cell 2
          have y3 : v12.cell? ⟨w.heap.size, 3, none⟩ = some (.int .i64 0) := HT13.out.2.1.cell 3
          simp only at t0 t1 t2 t3
          have hne : w.heap.size ≠ h := by have := HT13.out.2.2.1; omega
          have hne2 : h ≠ w.heap.size := by omega
          have HF := Lib.hid (AS.fin HT13.out hgl (.int .i64 (k0)) (.string ⟨#[]⟩) (.string ⟨#[]⟩) (.int .i64 (d7)))
          have HB := Lib.hid (AS.askB HT13.out)
          go_wp2
          refine bodyPost_ret (v := .agg #[.int .i64 (k0), .string ⟨#[]⟩, .string ⟨#[]⟩, .int .i64 (d7)]) ?_ rfl ⟨(k0, ⟨#[]⟩, ⟨#[]⟩, d7), (q8 + 1), rfl, HB.out, by omega, HF.out.1, HF.out.2⟩
          simp [results, Try.results160, go_sem, y0, y1, y2, y3]
    case true =>
      go_wp2_with fail
      have S2 := Sl.litS w4 9 hiOf #[.string ⟨#[122]⟩, .string ⟨#[99]⟩, .string ⟨#[122, 122]⟩, .string ⟨#[98]⟩, .string ⟨#[97]⟩] rfl
      have hw2 := (Below.refl w4.heap.size w4).alloc (Nat.le_refl _) (.cells #[.string ⟨#[122]⟩, .string ⟨#[99]⟩, .string ⟨#[122, 122]⟩, .string ⟨#[98]⟩, .string ⟨#[97]⟩] 9)
      have HWa := Lib.hid (HW4.out.below hw2)
      have hgW := HW4.out.2.2.2.1.1.lt
      refine (of_any w0 A bs c g (p + 1) _ hiOf 5 _ HWa.out.2.2.2.1 (by omega) (by decide) S2 (by intro b o h; simp at h; omega)).mono ?_
      rintro e v16 ⟨d18, hd18, rfl, hRd18, hGd18⟩
      have HD17 := Lib.hid (HWa.out.draw hRd18 hGd18 hgl HNE.out)
      have z20 := HD17.out.1.frozen 2
      have z20c := HD17.out.cells
      obtain ⟨z200, z201, z202, z203⟩ := z20c
      simp only at z200 z201 z202 z203
      have HS21 := Lib.hid (HD17.out.set 2 (.string d18) (k0, ⟨#[]⟩, d18, 0) rfl ⟨HD17.out.2.2.2.2.2.2.1, Nat.le_trans (hiOf_le _ hd18) (by decide)⟩ hgl HA2.out)
      have hzz20 : (v16.setCell ⟨h, 2, none⟩ (.string d18)).heap.size = v16.heap.size := World.size_setCell _ _ _
      clear hRd18 hGd18 HWa hw2 S2
      cases s3
      case false =>
        go_wp2_with fail
        generalize v16.setCell ⟨h, 2, none⟩ (.string d18) = u22 at *
        refine (pick_any w0 A bs c g ((p + 1) + 1) 64 _ HS21.out.2.2.2.1 (by omega) (by omega)).mono ?_
        rintro e v23 ⟨j, hj, rfl, hR5, hG5⟩
        have HT24 := Lib.hid (HS21.out.draw hR5 hG5 hgl HNE.out)
        have HB5 := Lib.hid (HS21.out.2.2.2.2.2.2)
        clear HS21 hR5 hG5
        have hlh := HT24.out.2.2.1
        have hlw := HT24.out.2.1.lt
        have hlH := HT24.out.1.lt
        rcases (show j = 0 ∨ j = 1 ∨ j = 2 ∨ j = 3 ∨ 4 ≤ j by omega) with rfl | rfl | rfl | rfl | hj4
        · clear hj
          go_wp2_with fail
          have S9 := Sl.litN v23 3 kindBad #[.int .i64 0, .int .i64 10, .int .i64 (-1)] rfl
          have HW9 := Lib.hid (HT24.out.below ((Below.refl v23.heap.size v23).alloc (Nat.le_refl _) (.cells #[.int .i64 0, .int .i64 10, .int .i64 (-1)] 3)))
          have hg9 := HT24.out.2.2.2.1.1.lt
          refine (num_any w0 A bs c g (((p + 1) + 1) + 1) _ kindBad 3 _ HW9.out.2.2.2.1 (by omega) (by decide) S9 (by intro b o h; simp at h; omega)).mono ?_
          rintro e v25 ⟨k9, -, rfl, hR9, hG9⟩
          have HT26 := Lib.hid (HW9.out.draw hR9 hG9 hgl HNE.out)
          have hlw := HT26.out.2.1.lt
          have hlH := HT26.out.1.lt
          clear hR9 hG9 HW9 S9 hg9 HT24
          obtain ⟨t0, t1, t2, t3⟩ := HT26.out.cells
          have r0 : v25.frozen? ⟨w.heap.size, 0, none⟩ = false := HT26.out.2.1.frozen 0
          have r1 : v25.frozen? ⟨w.heap.size, 1, none⟩ = false := HT26.out.2.1.frozen 1
          have r2 : v25.frozen? ⟨w.heap.size, 2, none⟩ = false := HT26.out.2.1.frozen 2
          have r3 : v25.frozen? ⟨w.heap.size, 3, none⟩ = false := HT26.out.2.1.frozen 3
          have y0 : v25.cell? ⟨w.heap.size, 0, none⟩ = some (.int .i64 0) := HT26.out.2.1.cell 0
          have y1 : v25.cell? ⟨w.heap.size, 1, none⟩ = some (.string ⟨#[]⟩) := HT26.out.2.1.cell 1
          have y2 : v25.cell? ⟨w.heap.size, 2, none⟩ = some (.string ⟨#[]⟩) := HT26.out.2.1.cell 2
          have y3 : v25.cell? ⟨w.heap.size, 3, none⟩ = some (.int .i64 0) := HT26.out.2.1.cell 3
          simp only at t0 t1 t2 t3
          have hne : w.heap.size ≠ h := by have := HT26.out.2.2.1; omega
          have hne2 : h ≠ w.heap.size := by omega
          have z0 := HT26.out.1.frozen 0
          have HF := Lib.hid (AS.fin (HT26.out.set 0 (.int .i64 k9) (k9, ⟨#[]⟩, d18, 0) rfl HT26.out.2.2.2.2.2.2 hgl HA2.out) hgl (.int .i64 (k9)) (.string ⟨#[]⟩) (.string d18) (.int .i64 (0)))
          have HB := Lib.hid (AS.askB (HT26.out.set 0 (.int .i64 k9) (k9, ⟨#[]⟩, d18, 0) rfl HT26.out.2.2.2.2.2.2 hgl HA2.out))
          go_wp2
          refine bodyPost_ret (v := .agg #[.int .i64 (k9), .string ⟨#[]⟩, .string d18, .int .i64 (0)]) ?_ rfl ⟨(k9, ⟨#[]⟩, d18, 0), (((p + 1) + 1) + 1 + 1), rfl, HB.out, by omega, HF.out.1, HF.out.2⟩
          simp [results, Try.results160, go_sem, y0, y1, y2, y3]
        · clear hj
          obtain ⟨t0, t1, t2, t3⟩ := HT24.out.cells
          have r0 : v23.frozen? ⟨w.heap.size, 0, none⟩ = false := HT24.out.2.1.frozen 0
          have r1 : v23.frozen? ⟨w.heap.size, 1, none⟩ = false := HT24.out.2.1.frozen 1
          have r2 : v23.frozen? ⟨w.heap.size, 2, none⟩ = false := HT24.out.2.1.frozen 2
          have r3 : v23.frozen? ⟨w.heap.size, 3, none⟩ = false := HT24.out.2.1.frozen 3
          have y0 : v23.cell? ⟨w.heap.size, 0, none⟩ = some (.int .i64 0) := HT24.out.2.1.cell 0
          have y1 : v23.cell? ⟨w.heap.size, 1, none⟩ = some (.string ⟨#[]⟩) := HT24.out.2.1.cell 1
          have y2 : v23.cell? ⟨w.heap.size, 2, none⟩ = some (.string ⟨#[]⟩) := HT24.out.2.1.cell 2
          have y3 : v23.cell? ⟨w.heap.size, 3, none⟩ = some (.int .i64 0) := HT24.out.2.1.cell 3
          simp only at t0 t1 t2 t3
          have hne : w.heap.size ≠ h := by have := HT24.out.2.2.1; omega
          have hne2 : h ≠ w.heap.size := by omega
          have z2 := HT24.out.1.frozen 2
          have HF := Lib.hid (AS.fin (HT24.out.set 2 (.string ⟨#[98]⟩) (k0, ⟨#[]⟩, ⟨#[98]⟩, 0) rfl ⟨HB5.out.1, Nat.le_trans (by decide : (⟨#[98]⟩ : ByteArray).size ≤ 1) (by decide)⟩ hgl HA2.out) hgl (.int .i64 (k0)) (.string ⟨#[]⟩) (.string ⟨#[98]⟩) (.int .i64 (0)))
          have HB := Lib.hid (AS.askB (HT24.out.set 2 (.string ⟨#[98]⟩) (k0, ⟨#[]⟩, ⟨#[98]⟩, 0) rfl ⟨HB5.out.1, Nat.le_trans (by decide : (⟨#[98]⟩ : ByteArray).size ≤ 1) (by decide)⟩ hgl HA2.out))
          go_wp2
          refine bodyPost_ret (v := .agg #[.int .i64 (k0), .string ⟨#[]⟩, .string ⟨#[98]⟩, .int .i64 (0)]) ?_ rfl ⟨(k0, ⟨#[]⟩, ⟨#[98]⟩, 0), (((p + 1) + 1) + 1), rfl, HB.out, by omega, HF.out.1, HF.out.2⟩
          simp [results, Try.results160, go_sem, y0, y1, y2, y3]
        · clear hj
          obtain ⟨t0, t1, t2, t3⟩ := HT24.out.cells
          have r0 : v23.frozen? ⟨w.heap.size, 0, none⟩ = false := HT24.out.2.1.frozen 0
          have r1 : v23.frozen? ⟨w.heap.size, 1, none⟩ = false := HT24.out.2.1.frozen 1
          have r2 : v23.frozen? ⟨w.heap.size, 2, none⟩ = false := HT24.out.2.1.frozen 2
          have r3 : v23.frozen? ⟨w.heap.size, 3, none⟩ = false := HT24.out.2.1.frozen 3
          have y0 : v23.cell? ⟨w.heap.size, 0, none⟩ = some (.int .i64 0) := HT24.out.2.1.cell 0
          have y1 : v23.cell? ⟨w.heap.size, 1, none⟩ = some (.string ⟨#[]⟩) := HT24.out.2.1.cell 1
          have y2 : v23.cell? ⟨w.heap.size, 2, none⟩ = some (.string ⟨#[]⟩) := HT24.out.2.1.cell 2
          have y3 : v23.cell? ⟨w.heap.size, 3, none⟩ = some (.int .i64 0) := HT24.out.2.1.cell 3
          simp only at t0 t1 t2 t3
          have hne : w.heap.size ≠ h := by have := HT24.out.2.2.1; omega
          have hne2 : h ≠ w.heap.size := by omega
          have z3 := HT24.out.1.frozen 3
          have HF := Lib.hid (AS.fin (HT24.out.set 3 (.int .i64 5) (k0, ⟨#[]⟩, d18, 5) rfl HB5.out hgl HA2.out) hgl (.int .i64 (k0)) (.string ⟨#[]⟩) (.string d18) (.int .i64 (5)))
          have HB := Lib.hid (AS.askB (HT24.out.set 3 (.int .i64 5) (k0, ⟨#[]⟩, d18, 5) rfl HB5.out hgl HA2.out))
          go_wp2
          refine bodyPost_ret (v := .agg #[.int .i64 (k0), .string ⟨#[]⟩, .string d18, .int .i64 (5)]) ?_ rfl ⟨(k0, ⟨#[]⟩, d18, 5), (((p + 1) + 1) + 1), rfl, HB.out, by omega, HF.out.1, HF.out.2⟩
          simp [results, Try.results160, go_sem, y0, y1, y2, y3]
        · clear hj
          obtain ⟨t0, t1, t2, t3⟩ := HT24.out.cells
          have r0 : v23.frozen? ⟨w.heap.size, 0, none⟩ = false := HT24.out.2.1.frozen 0
          have r1 : v23.frozen? ⟨w.heap.size, 1, none⟩ = false := HT24.out.2.1.frozen 1
          have r2 : v23.frozen? ⟨w.heap.size, 2, none⟩ = false := HT24.out.2.1.frozen 2
          have r3 : v23.frozen? ⟨w.heap.size, 3, none⟩ = false := HT24.out.2.1.frozen 3
          have y0 : v23.cell? ⟨w.heap.size, 0, none⟩ = some (.int .i64 0) := HT24.out.2.1.cell 0
          have y1 : v23.cell? ⟨w.heap.size, 1, none⟩ = some (.string ⟨#[]⟩) := HT24.out.2.1.cell 1
          have y2 : v23.cell? ⟨w.heap.size, 2, none⟩ = some (.string ⟨#[]⟩) := HT24.out.2.1.cell 2
          have y3 : v23.cell? ⟨w.heap.size, 3, none⟩ = some (.int .i64 0) := HT24.out.2.1.cell 3
          simp only at t0 t1 t2 t3
          have hne : w.heap.size ≠ h := by have := HT24.out.2.2.1; omega
          have hne2 : h ≠ w.heap.size := by omega
          have z1 := HT24.out.1.frozen 1
          have HF := Lib.hid (AS.fin (HT24.out.set 1 (.string ⟨#[]⟩) (k0, ⟨#[]⟩, d18, 0) rfl ⟨Nat.zero_le _, HB5.out.2⟩ hgl HA2.out) hgl (.int .i64 (k0)) (.string ⟨#[]⟩) (.string d18) (.int .i64 (0)))
          have HB := Lib.hid (AS.askB (HT24.out.set 1 (.string ⟨#[]⟩) (k0, ⟨#[]⟩, d18, 0) rfl ⟨Nat.zero_le _, HB5.out.2⟩ hgl HA2.out))
          go_wp2
          refine bodyPost_ret (v := .agg #[.int .i64 (k0), .string ⟨#[]⟩, .string d18, .int .i64 (0)]) ?_ rfl ⟨(k0, ⟨#[]⟩, d18, 0), (((p + 1) + 1) + 1), rfl, HB.out, by omega, HF.out.1, HF.out.2⟩
          simp [results, Try.results160, go_sem, y0, y1, y2, y3]
        · have e0 : (((j : Nat) : Int) == 0) = false := beq_eq_false_iff_ne.2 (by omega)
          have e1 : (((j : Nat) : Int) == 1) = false := beq_eq_false_iff_ne.2 (by omega)
          have e2 : (((j : Nat) : Int) == 2) = false := beq_eq_false_iff_ne.2 (by omega)
          have e3 : (((j : Nat) : Int) == 3) = false := beq_eq_false_iff_ne.2 (by omega)
          have n0 : ¬ ((j : Nat) : Int) = 0 := by omega
          have n1 : ¬ ((j : Nat) : Int) = 1 := by omega
          have n2 : ¬ ((j : Nat) : Int) = 2 := by omega
          have n3 : ¬ ((j : Nat) : Int) = 3 := by omega
          obtain ⟨t0, t1, t2, t3⟩ := HT24.out.cells
          have r0 : v23.frozen? ⟨w.heap.size, 0, none⟩ = false := HT24.out.2.1.frozen 0
          have r1 : v23.frozen? ⟨w.heap.size, 1, none⟩ = false := HT24.out.2.1.frozen 1
          have r2 : v23.frozen? ⟨w.heap.size, 2, none⟩ = false := HT24.out.2.1.frozen 2
          have r3 : v23.frozen? ⟨w.heap.size, 3, none⟩ = false := HT24.out.2.1.frozen 3
          have y0 : v23.cell? ⟨w.heap.size, 0, none⟩ = some (.int .i64 0) := HT24.out.2.1.cell 0
          have y1 : v23.cell? ⟨w.heap.size, 1, none⟩ = some (.string ⟨#[]⟩) := HT24.out.2.1.cell 1
          have y2 : v23.cell? ⟨w.heap.size, 2, none⟩ = some (.string ⟨#[]⟩) := HT24.out.2.1.cell 2
          have y3 : v23.cell? ⟨w.heap.size, 3, none⟩ = some (.int .i64 0) := HT24.out.2.1.cell 3
          simp only at t0 t1 t2 t3
          have hne : w.heap.size ≠ h := by have := HT24.out.2.2.1; omega
          have hne2 : h ≠ w.heap.size := by omega
          have HF := Lib.hid (AS.fin HT24.out hgl (.int .i64 (k0)) (.string ⟨#[]⟩) (.string d18) (.int .i64 (0)))
          have HB := Lib.hid (AS.askB HT24.out)
          go_wp2
          refine bodyPost_ret (v := .agg #[.int .i64 (k0), .string ⟨#[]⟩, .string d18, .int .i64 (0)]) ?_ rfl ⟨(k0, ⟨#[]⟩, d18, 0), (((p + 1) + 1) + 1), rfl, HB.out, by omega, HF.out.1, HF.out.2⟩
          simp [results, Try.results160, go_sem, y0, y1, y2, y3]
      case true =>
        go_wp2_with fail
        generalize v16.setCell ⟨h, 2, none⟩ (.string d18) = u22 at *
        refine (l1Value_any w0 A bs c g ((p + 1) + 1) _ HS21.out.2.2.2.1 (by omega)).mono ?_
        rintro e v27 ⟨d29, q30, rfl, hq30, hRd29, hGd29⟩
        have HD28 := Lib.hid (HS21.out.draw hRd29 hGd29 hgl HNE.out)
        have z31 := HD28.out.1.frozen 3
        have z31c := HD28.out.cells
        obtain ⟨z310, z311, z312, z313⟩ := z31c
        simp only at z310 z311 z312 z313
        have HS32 := Lib.hid (HD28.out.set 3 (.int .i64 d29) (k0, ⟨#[]⟩, d18, d29) rfl HD28.out.2.2.2.2.2.2 hgl HA2.out)
        have hzz31 : (v27.setCell ⟨h, 3, none⟩ (.int .i64 d29)).heap.size = v27.heap.size := World.size_setCell _ _ _
        clear hRd29 hGd29
        go_wp2_with fail
        generalize v27.setCell ⟨h, 3, none⟩ (.int .i64 d29) = u33 at *
        refine (pick_any w0 A bs c g q30 64 _ HS32.out.2.2.2.1 (by omega) (by omega)).mono ?_
        rintro e v34 ⟨j, hj, rfl, hR5, hG5⟩
        have HT35 := Lib.hid (HS32.out.draw hR5 hG5 hgl HNE.out)
        have HB5 := Lib.hid (HS32.out.2.2.2.2.2.2)
        clear HS32 hR5 hG5
        have hlh := HT35.out.2.2.1
        have hlw := HT35.out.2.1.lt
        have hlH := HT35.out.1.lt
        rcases (show j = 0 ∨ j = 1 ∨ j = 2 ∨ j = 3 ∨ 4 ≤ j by omega) with rfl | rfl | rfl | rfl | hj4
        · clear hj
          go_wp2_with fail
          have S9 := Sl.litN v34 3 kindBad #[.int .i64 0, .int .i64 10, .int .i64 (-1)] rfl
          have HW9 := Lib.hid (HT35.out.below ((Below.refl v34.heap.size v34).alloc (Nat.le_refl _) (.cells #[.int .i64 0, .int .i64 10, .int .i64 (-1)] 3)))
          have hg9 := HT35.out.2.2.2.1.1.lt
          refine (num_any w0 A bs c g (q30 + 1) _ kindBad 3 _ HW9.out.2.2.2.1 (by omega) (by decide) S9 (by intro b o h; simp at h; omega)).mono ?_
          rintro e v36 ⟨k9, -, rfl, hR9, hG9⟩
          have HT37 := Lib.hid (HW9.out.draw hR9 hG9 hgl HNE.out)
          have hlw := HT37.out.2.1.lt
          have hlH := HT37.out.1.lt
          clear hR9 hG9 HW9 S9 hg9 HT35
          obtain ⟨t0, t1, t2, t3⟩ := HT37.out.cells
          have r0 : v36.frozen? ⟨w.heap.size, 0, none⟩ = false := HT37.out.2.1.frozen 0
          have r1 : v36.frozen? ⟨w.heap.size, 1, none⟩ = false := HT37.out.2.1.frozen 1
          have r2 : v36.frozen? ⟨w.heap.size, 2, none⟩ = false := HT37.out.2.1.frozen 2
          have r3 : v36.frozen? ⟨w.heap.size, 3, none⟩ = false := HT37.out.2.1.frozen 3
          have y0 : v36.cell? ⟨w.heap.size, 0, none⟩ = some (.int .i64 0) := HT37.out.2.1.cell 0
          have y1 : v36.cell? ⟨w.heap.size, 1, none⟩ = some (.string ⟨#[]⟩) := HT37.out.2.1.cell 1
          have y2 : v36.cell? ⟨w.heap.size, 2, none⟩ = some (.string ⟨#[]⟩) := HT37.out.2.1.cell 2
          have y3 : v36.cell? ⟨w.heap.size, 3, none⟩ = some (.int .i64 0) := HT37.out.2.1.cell 3
          simp only at t0 t1 t2 t3
          have hne : w.heap.size ≠ h := by have := HT37.out.2.2.1; omega
          have hne2 : h ≠ w.heap.size := by omega
          have z0 := HT37.out.1.frozen 0
          have HF := Lib.hid (AS.fin (HT37.out.set 0 (.int .i64 k9) (k9, ⟨#[]⟩, d18, d29) rfl HT37.out.2.2.2.2.2.2 hgl HA2.out) hgl (.int .i64 (k9)) (.string ⟨#[]⟩) (.string d18) (.int .i64 (d29)))
          have HB := Lib.hid (AS.askB (HT37.out.set 0 (.int .i64 k9) (k9, ⟨#[]⟩, d18, d29) rfl HT37.out.2.2.2.2.2.2 hgl HA2.out))
          go_wp2
          refine bodyPost_ret (v := .agg #[.int .i64 (k9), .string ⟨#[]⟩, .string d18, .int .i64 (d29)]) ?_ rfl ⟨(k9, ⟨#[]⟩, d18, d29), (q30 + 1 + 1), rfl, HB.out, by omega, HF.out.1, HF.out.2⟩
          simp [results, Try.results160, go_sem, y0, y1, y2, y3]
        · clear hj
          obtain ⟨t0, t1, t2, t3⟩ := HT35.out.cells
          have r0 : v34.frozen? ⟨w.heap.size, 0, none⟩ = false := HT35.out.2.1.frozen 0
          have r1 : v34.frozen? ⟨w.heap.size, 1, none⟩ = false := HT35.out.2.1.frozen 1
          have r2 : v34.frozen? ⟨w.heap.size, 2, none⟩ = false := HT35.out.2.1.frozen 2
          have r3 : v34.frozen? ⟨w.heap.size, 3, none⟩ = false := HT35.out.2.1.frozen 3
          have y0 : v34.cell? ⟨w.heap.size, 0, none⟩ = some (.int .i64 0) := HT35.out.2.1.cell 0
          have y1 : v34.cell? ⟨w.heap.size, 1, none⟩ = some (.string ⟨#[]⟩) := HT35.out.2.1.cell 1
          have y2 : v34.cell? ⟨w.heap.size, 2, none⟩ = some (.string ⟨#[]⟩) := HT35.out.2.1.cell 2
          have y3 : v34.cell? ⟨w.heap.size, 3, none⟩ = some (.int .i64 0) := HT35.out.2.1.cell 3
          simp only at t0 t1 t2 t3
          have hne : w.heap.size ≠ h := by have := HT35.out.2.2.1; omega
          have hne2 : h ≠ w.heap.size := by omega
          have z2 := HT35.out.1.frozen 2
          have HF := Lib.hid (AS.fin (HT35.out.set 2 (.string ⟨#[98]⟩) (k0, ⟨#[]⟩, ⟨#[98]⟩, d29) rfl ⟨HB5.out.1, Nat.le_trans (by decide : (⟨#[98]⟩ : ByteArray).size ≤ 1) (by decide)⟩ hgl HA2.out) hgl (.int .i64 (k0)) (.string ⟨#[]⟩) (.string ⟨#[98]⟩) (.int .i64 (d29)))
          have HB := Lib.hid (AS.askB (HT35.out.set 2 (.string ⟨#[98]⟩) (k0, ⟨#[]⟩, ⟨#[98]⟩, d29) rfl ⟨HB5.out.1, Nat.le_trans (by decide : (⟨#[98]⟩ : ByteArray).size ≤ 1) (by decide)⟩ hgl HA2.out))
          go_wp2
          refine bodyPost_ret (v := .agg #[.int .i64 (k0), .string ⟨#[]⟩, .string ⟨#[98]⟩, .int .i64 (d29)]) ?_ rfl ⟨(k0, ⟨#[]⟩, ⟨#[98]⟩, d29), (q30 + 1), rfl, HB.out, by omega, HF.out.1, HF.out.2⟩
          simp [results, Try.results160, go_sem, y0, y1, y2, y3]
        · clear hj
          obtain ⟨t0, t1, t2, t3⟩ := HT35.out.cells
          have r0 : v34.frozen? ⟨w.heap.size, 0, none⟩ = false := HT35.out.2.1.frozen 0
          have r1 : v34.frozen? ⟨w.heap.size, 1, none⟩ = false := HT35.out.2.1.frozen 1
          have r2 : v34.frozen? ⟨w.heap.size, 2, none⟩ = false := HT35.out.2.1.frozen 2
          have r3 : v34.frozen? ⟨w.heap.size, 3, none⟩ = false := HT35.out.2.1.frozen 3
          have y0 : v34.cell? ⟨w.heap.size, 0, none⟩ = some (.int .i64 0) := HT35.out.2.1.cell 0
          have y1 : v34.cell? ⟨w.heap.size, 1, none⟩ = some (.string ⟨#[]⟩) := HT35.out.2.1.cell 1
          have y2 : v34.cell? ⟨w.heap.size, 2, none⟩ = some (.string ⟨#[]⟩) := HT35.out.2.1.cell 2
          have y3 : v34.cell? ⟨w.heap.size, 3, none⟩ = some (.int .i64 0) := HT35.out.2.1.cell 3
          simp only at t0 t1 t2 t3
          have hne : w.heap.size ≠ h := by have := HT35.out.2.2.1; omega
          have hne2 : h ≠ w.heap.size := by omega
          have z3 := HT35.out.1.frozen 3
          have HF := Lib.hid (AS.fin (HT35.out.set 3 (.int .i64 5) (k0, ⟨#[]⟩, d18, 5) rfl HB5.out hgl HA2.out) hgl (.int .i64 (k0)) (.string ⟨#[]⟩) (.string d18) (.int .i64 (5)))
          have HB := Lib.hid (AS.askB (HT35.out.set 3 (.int .i64 5) (k0, ⟨#[]⟩, d18, 5) rfl HB5.out hgl HA2.out))
          go_wp2
          refine bodyPost_ret (v := .agg #[.int .i64 (k0), .string ⟨#[]⟩, .string d18, .int .i64 (5)]) ?_ rfl ⟨(k0, ⟨#[]⟩, d18, 5), (q30 + 1), rfl, HB.out, by omega, HF.out.1, HF.out.2⟩
          simp [results, Try.results160, go_sem, y0, y1, y2, y3]
        · clear hj
          obtain ⟨t0, t1, t2, t3⟩ := HT35.out.cells
          have r0 : v34.frozen? ⟨w.heap.size, 0, none⟩ = false := HT35.out.2.1.frozen 0
          have r1 : v34.frozen? ⟨w.heap.size, 1, none⟩ = false := HT35.out.2.1.frozen 1
          have r2 : v34.frozen? ⟨w.heap.size, 2, none⟩ = false := HT35.out.2.1.frozen 2
          have r3 : v34.frozen? ⟨w.heap.size, 3, none⟩ = false := HT35.out.2.1.frozen 3
          have y0 : v34.cell? ⟨w.heap.size, 0, none⟩ = some (.int .i64 0) := HT35.out.2.1.cell 0
          have y1 : v34.cell? ⟨w.heap.size, 1, none⟩ = some (.string ⟨#[]⟩) := HT35.out.2.1.cell 1
          have y2 : v34.cell? ⟨w.heap.size, 2, none⟩ = some (.string ⟨#[]⟩) := HT35.out.2.1.cell 2
          have y3 : v34.cell? ⟨w.heap.size, 3, none⟩ = some (.int .i64 0) := HT35.out.2.1.cell 3
          simp only at t0 t1 t2 t3
          have hne : w.heap.size ≠ h := by have := HT35.out.2.2.1; omega
          have hne2 : h ≠ w.heap.size := by omega
          have z1 := HT35.out.1.frozen 1
          have HF := Lib.hid (AS.fin (HT35.out.set 1 (.string ⟨#[]⟩) (k0, ⟨#[]⟩, d18, d29) rfl ⟨Nat.zero_le _, HB5.out.2⟩ hgl HA2.out) hgl (.int .i64 (k0)) (.string ⟨#[]⟩) (.string d18) (.int .i64 (d29)))
          have HB := Lib.hid (AS.askB (HT35.out.set 1 (.string ⟨#[]⟩) (k0, ⟨#[]⟩, d18, d29) rfl ⟨Nat.zero_le _, HB5.out.2⟩ hgl HA2.out))
          go_wp2
          refine bodyPost_ret (v := .agg #[.int .i64 (k0), .string ⟨#[]⟩, .string d18, .int .i64 (d29)]) ?_ rfl ⟨(k0, ⟨#[]⟩, d18, d29), (q30 + 1), rfl, HB.out, by omega, HF.out.1, HF.out.2⟩
          simp [results, Try.results160, go_sem, y0, y1, y2, y3]
        · have e0 : (((j : Nat) : Int) == 0) = false := beq_eq_false_iff_ne.2 (by omega)
          have e1 : (((j : Nat) : Int) == 1) = false := beq_eq_false_iff_ne.2 (by omega)
          have e2 : (((j : Nat) : Int) == 2) = false := beq_eq_false_iff_ne.2 (by omega)
          have e3 : (((j : Nat) : Int) == 3) = false := beq_eq_false_iff_ne.2 (by omega)
          have n0 : ¬ ((j : Nat) : Int) = 0 := by omega
          have n1 : ¬ ((j : Nat) : Int) = 1 := by omega
          have n2 : ¬ ((j : Nat) : Int) = 2 := by omega
          have n3 : ¬ ((j : Nat) : Int) = 3 := by omega
          obtain ⟨t0, t1, t2, t3⟩ := HT35.out.cells
          have r0 : v34.frozen? ⟨w.heap.size, 0, none⟩ = false := HT35.out.2.1.frozen 0
          have r1 : v34.frozen? ⟨w.heap.size, 1, none⟩ = false := HT35.out.2.1.frozen 1
          have r2 : v34.frozen? ⟨w.heap.size, 2, none⟩ = false := HT35.out.2.1.frozen 2
          have r3 : v34.frozen? ⟨w.heap.size, 3, none⟩ = false := HT35.out.2.1.frozen 3
          have y0 : v34.cell? ⟨w.heap.size, 0, none⟩ = some (.int .i64 0) := HT35.out.2.1.cell 0
          have y1 : v34.cell? ⟨w.heap.size, 1, none⟩ = some (.string ⟨#[]⟩) := HT35.out.2.1.cell 1
          have y2 : v34.cell? ⟨w.heap.size, 2, none⟩ = some (.string ⟨#[]⟩) := HT35.out.2.1.cell 2
          have y3 : v34.cell? ⟨w.heap.size, 3, none⟩ = some (.int .i64 0) := HT35.out.2.1.cell 3
          simp only at t0 t1 t2 t3
          have hne : w.heap.size ≠ h := by have := HT35.out.2.2.1; omega
          have hne2 : h ≠ w.heap.size := by omega
          have HF := Lib.hid (AS.fin HT35.out hgl (.int .i64 (k0)) (.string ⟨#[]⟩) (.string d18) (.int .i64 (d29)))
          have HB := Lib.hid (AS.askB HT35.out)
          go_wp2
          refine bodyPost_ret (v := .agg #[.int .i64 (k0), .string ⟨#[]⟩, .string d18, .int .i64 (d29)]) ?_ rfl ⟨(k0, ⟨#[]⟩, d18, d29), (q30 + 1), rfl, HB.out, by omega, HF.out.1, HF.out.2⟩
          simp [results, Try.results160, go_sem, y0, y1, y2, y3]
  case true =>
    go_wp2_with fail
    refine (l1Near_any w0 A bs c g (p + 1) A2 rows c2 _ HW4.out.2.2.2.1 (by omega) (by omega) HK.out HW4.out.2.2.2.2.2.1 HNE.out).mono ?_
    rintro e v38 ⟨d40, q41, rfl, hd40, hq41, hRd40, hGd40⟩
    have HD39 := Lib.hid (HW4.out.draw hRd40 hGd40 hgl HNE.out)
    have z42 := HD39.out.1.frozen 1
    have z42c := HD39.out.cells
    obtain ⟨z420, z421, z422, z423⟩ := z42c
    simp only at z420 z421 z422 z423
    have HS43 := Lib.hid (HD39.out.set 1 (.string d40) (k0, d40, ⟨#[]⟩, 0) rfl ⟨hd40, HD39.out.2.2.2.2.2.2.2⟩ hgl HA2.out)
    have hzz42 : (v38.setCell ⟨h, 1, none⟩ (.string d40)).heap.size = v38.heap.size := World.size_setCell _ _ _
    clear hRd40 hGd40
    cases s2
    case false =>
      cases s3
      case false =>
        go_wp2_with fail
        generalize v38.setCell ⟨h, 1, none⟩ (.string d40) = u44 at *
        refine (pick_any w0 A bs c g q41 64 _ HS43.out.2.2.2.1 (by omega) (by omega)).mono ?_
        rintro e v45 ⟨j, hj, rfl, hR5, hG5⟩
        have HT46 := Lib.hid (HS43.out.draw hR5 hG5 hgl HNE.out)
        have HB5 := Lib.hid (HS43.out.2.2.2.2.2.2)
        clear HS43 hR5 hG5
        have hlh := HT46.out.2.2.1
        have hlw := HT46.out.2.1.lt
        have hlH := HT46.out.1.lt
        rcases (show j = 0 ∨ j = 1 ∨ j = 2 ∨ j = 3 ∨ 4 ≤ j by omega) with rfl | rfl | rfl | rfl | hj4
        · clear hj
          go_wp2_with fail
          have S9 := Sl.litN v45 3 kindBad #[.int .i64 0, .int .i64 10, .int .i64 (-1)] rfl
          have HW9 := Lib.hid (HT46.out.below ((Below.refl v45.heap.size v45).alloc (Nat.le_refl _) (.cells #[.int .i64 0, .int .i64 10, .int .i64 (-1)] 3)))
          have hg9 := HT46.out.2.2.2.1.1.lt
          refine (num_any w0 A bs c g (q41 + 1) _ kindBad 3 _ HW9.out.2.2.2.1 (by omega) (by decide) S9 (by intro b o h; simp at h; omega)).mono ?_
          rintro e v47 ⟨k9, -, rfl, hR9, hG9⟩
          have HT48 := Lib.hid (HW9.out.draw hR9 hG9 hgl HNE.out)
          have hlw := HT48.out.2.1.lt
          have hlH := HT48.out.1.lt
          clear hR9 hG9 HW9 S9 hg9 HT46
          obtain ⟨t0, t1, t2, t3⟩ := HT48.out.cells
          have r0 : v47.frozen? ⟨w.heap.size, 0, none⟩ = false := HT48.out.2.1.frozen 0
          have r1 : v47.frozen? ⟨w.heap.size, 1, none⟩ = false := HT48.out.2.1.frozen 1
          have r2 : v47.frozen? ⟨w.heap.size, 2, none⟩ = false := HT48.out.2.1.frozen 2
          have r3 : v47.frozen? ⟨w.heap.size, 3, none⟩ = false := HT48.out.2.1.frozen 3
          have y0 : v47.cell? ⟨w.heap.size, 0, none⟩ = some (.int .i64 0) := HT48.out.2.1.cell 0
          have y1 : v47.cell? ⟨w.heap.size, 1, none⟩ = some (.string ⟨#[]⟩) := HT48.out.2.1.cell 1
          have y2 : v47.cell? ⟨w.heap.size, 2, none⟩ = some (.string ⟨#[]⟩) := HT48.out.2.1.cell 2
          have y3 : v47.cell? ⟨w.heap.size, 3, none⟩ = some (.int .i64 0) := HT48.out.2.1.cell 3
          simp only at t0 t1 t2 t3
          have hne : w.heap.size ≠ h := by have := HT48.out.2.2.1; omega
          have hne2 : h ≠ w.heap.size := by omega
          have z0 := HT48.out.1.frozen 0
          have HF := Lib.hid (AS.fin (HT48.out.set 0 (.int .i64 k9) (k9, d40, ⟨#[]⟩, 0) rfl HT48.out.2.2.2.2.2.2 hgl HA2.out) hgl (.int .i64 (k9)) (.string d40) (.string ⟨#[]⟩) (.int .i64 (0)))
          have HB := Lib.hid (AS.askB (HT48.out.set 0 (.int .i64 k9) (k9, d40, ⟨#[]⟩, 0) rfl HT48.out.2.2.2.2.2.2 hgl HA2.out))
          go_wp2
          refine bodyPost_ret (v := .agg #[.int .i64 (k9), .string d40, .string ⟨#[]⟩, .int .i64 (0)]) ?_ rfl ⟨(k9, d40, ⟨#[]⟩, 0), (q41 + 1 + 1), rfl, HB.out, by omega, HF.out.1, HF.out.2⟩
          simp [results, Try.results160, go_sem, y0, y1, y2, y3]
        · clear hj
          obtain ⟨t0, t1, t2, t3⟩ := HT46.out.cells
          have r0 : v45.frozen? ⟨w.heap.size, 0, none⟩ = false := HT46.out.2.1.frozen 0
          have r1 : v45.frozen? ⟨w.heap.size, 1, none⟩ = false := HT46.out.2.1.frozen 1
          have r2 : v45.frozen? ⟨w.heap.size, 2, none⟩ = false := HT46.out.2.1.frozen 2
          have r3 : v45.frozen? ⟨w.heap.size, 3, none⟩ = false := HT46.out.2.1.frozen 3
          have y0 : v45.cell? ⟨w.heap.size, 0, none⟩ = some (.int .i64 0) := HT46.out.2.1.cell 0
          have y1 : v45.cell? ⟨w.heap.size, 1, none⟩ = some (.string ⟨#[]⟩) := HT46.out.2.1.cell 1
          have y2 : v45.cell? ⟨w.heap.size, 2, none⟩ = some (.string ⟨#[]⟩) := HT46.out.2.1.cell 2
          have y3 : v45.cell? ⟨w.heap.size, 3, none⟩ = some (.int .i64 0) := HT46.out.2.1.cell 3
          simp only at t0 t1 t2 t3
          have hne : w.heap.size ≠ h := by have := HT46.out.2.2.1; omega
          have hne2 : h ≠ w.heap.size := by omega
          have z2 := HT46.out.1.frozen 2
          have HF := Lib.hid (AS.fin (HT46.out.set 2 (.string ⟨#[98]⟩) (k0, d40, ⟨#[98]⟩, 0) rfl ⟨HB5.out.1, Nat.le_trans (by decide : (⟨#[98]⟩ : ByteArray).size ≤ 1) (by decide)⟩ hgl HA2.out) hgl (.int .i64 (k0)) (.string d40) (.string ⟨#[98]⟩) (.int .i64 (0)))
          have HB := Lib.hid (AS.askB (HT46.out.set 2 (.string ⟨#[98]⟩) (k0, d40, ⟨#[98]⟩, 0) rfl ⟨HB5.out.1, Nat.le_trans (by decide : (⟨#[98]⟩ : ByteArray).size ≤ 1) (by decide)⟩ hgl HA2.out))
          go_wp2
          refine bodyPost_ret (v := .agg #[.int .i64 (k0), .string d40, .string ⟨#[98]⟩, .int .i64 (0)]) ?_ rfl ⟨(k0, d40, ⟨#[98]⟩, 0), (q41 + 1), rfl, HB.out, by omega, HF.out.1, HF.out.2⟩
          simp [results, Try.results160, go_sem, y0, y1, y2, y3]
        · clear hj
          obtain ⟨t0, t1, t2, t3⟩ := HT46.out.cells
          have r0 : v45.frozen? ⟨w.heap.size, 0, none⟩ = false := HT46.out.2.1.frozen 0
          have r1 : v45.frozen? ⟨w.heap.size, 1, none⟩ = false := HT46.out.2.1.frozen 1
          have r2 : v45.frozen? ⟨w.heap.size, 2, none⟩ = false := HT46.out.2.1.frozen 2
          have r3 : v45.frozen? ⟨w.heap.size, 3, none⟩ = false := HT46.out.2.1.frozen 3
          have y0 : v45.cell? ⟨w.heap.size, 0, none⟩ = some (.int .i64 0) := HT46.out.2.1.cell 0
          have y1 : v45.cell? ⟨w.heap.size, 1, none⟩ = some (.string ⟨#[]⟩) := HT46.out.2.1.cell 1
          have y2 : v45.cell? ⟨w.heap.size, 2, none⟩ = some (.string ⟨#[]⟩) := HT46.out.2.1.cell 2
          have y3 : v45.cell? ⟨w.heap.size, 3, none⟩ = some (.int .i64 0) := HT46.out.2.1.cell 3
          simp only at t0 t1 t2 t3
          have hne : w.heap.size ≠ h := by have := HT46.out.2.2.1; omega
          have hne2 : h ≠ w.heap.size := by omega
          have z3 := HT46.out.1.frozen 3
          have HF := Lib.hid (AS.fin (HT46.out.set 3 (.int .i64 5) (k0, d40, ⟨#[]⟩, 5) rfl HB5.out hgl HA2.out) hgl (.int .i64 (k0)) (.string d40) (.string ⟨#[]⟩) (.int .i64 (5)))
          have HB := Lib.hid (AS.askB (HT46.out.set 3 (.int .i64 5) (k0, d40, ⟨#[]⟩, 5) rfl HB5.out hgl HA2.out))
          go_wp2
          refine bodyPost_ret (v := .agg #[.int .i64 (k0), .string d40, .string ⟨#[]⟩, .int .i64 (5)]) ?_ rfl ⟨(k0, d40, ⟨#[]⟩, 5), (q41 + 1), rfl, HB.out, by omega, HF.out.1, HF.out.2⟩
          simp [results, Try.results160, go_sem, y0, y1, y2, y3]
        · clear hj
          obtain ⟨t0, t1, t2, t3⟩ := HT46.out.cells
          have r0 : v45.frozen? ⟨w.heap.size, 0, none⟩ = false := HT46.out.2.1.frozen 0
          have r1 : v45.frozen? ⟨w.heap.size, 1, none⟩ = false := HT46.out.2.1.frozen 1
          have r2 : v45.frozen? ⟨w.heap.size, 2, none⟩ = false := HT46.out.2.1.frozen 2
          have r3 : v45.frozen? ⟨w.heap.size, 3, none⟩ = false := HT46.out.2.1.frozen 3
          have y0 : v45.cell? ⟨w.heap.size, 0, none⟩ = some (.int .i64 0) := HT46.out.2.1.cell 0
          have y1 : v45.cell? ⟨w.heap.size, 1, none⟩ = some (.string ⟨#[]⟩) := HT46.out.2.1.cell 1
          have y2 : v45.cell? ⟨w.heap.size, 2, none⟩ = some (.string ⟨#[]⟩) := HT46.out.2.1.cell 2
          have y3 : v45.cell? ⟨w.heap.size, 3, none⟩ = some (.int .i64 0) := HT46.out.2.1.cell 3
          simp only at t0 t1 t2 t3
          have hne : w.heap.size ≠ h := by have := HT46.out.2.2.1; omega
          have hne2 : h ≠ w.heap.size := by omega
          have z1 := HT46.out.1.frozen 1
          have HF := Lib.hid (AS.fin (HT46.out.set 1 (.string ⟨#[]⟩) (k0, ⟨#[]⟩, ⟨#[]⟩, 0) rfl ⟨Nat.zero_le _, HB5.out.2⟩ hgl HA2.out) hgl (.int .i64 (k0)) (.string ⟨#[]⟩) (.string ⟨#[]⟩) (.int .i64 (0)))
          have HB := Lib.hid (AS.askB (HT46.out.set 1 (.string ⟨#[]⟩) (k0, ⟨#[]⟩, ⟨#[]⟩, 0) rfl ⟨Nat.zero_le _, HB5.out.2⟩ hgl HA2.out))
          go_wp2
          refine bodyPost_ret (v := .agg #[.int .i64 (k0), .string ⟨#[]⟩, .string ⟨#[]⟩, .int .i64 (0)]) ?_ rfl ⟨(k0, ⟨#[]⟩, ⟨#[]⟩, 0), (q41 + 1), rfl, HB.out, by omega, HF.out.1, HF.out.2⟩
          simp [results, Try.results160, go_sem, y0, y1, y2, y3]
        · have e0 : (((j : Nat) : Int) == 0) = false := beq_eq_false_iff_ne.2 (by omega)
          have e1 : (((j : Nat) : Int) == 1) = false := beq_eq_false_iff_ne.2 (by omega)
          have e2 : (((j : Nat) : Int) == 2) = false := beq_eq_false_iff_ne.2 (by omega)
          have e3 : (((j : Nat) : Int) == 3) = false := beq_eq_false_iff_ne.2 (by omega)
          have n0 : ¬ ((j : Nat) : Int) = 0 := by omega
          have n1 : ¬ ((j : Nat) : Int) = 1 := by omega
          have n2 : ¬ ((j : Nat) : Int) = 2 := by omega
          have n3 : ¬ ((j : Nat) : Int) = 3 := by omega
          obtain ⟨t0, t1, t2, t3⟩ := HT46.out.cells
          have r0 : v45.frozen? ⟨w.heap.size, 0, none⟩ = false := HT46.out.2.1.frozen 0
          have r1 : v45.frozen? ⟨w.heap.size, 1, none⟩ = false := HT46.out.2.1.frozen 1
          have r2 : v45.frozen? ⟨w.heap.size, 2, none⟩ = false := HT46.out.2.1.frozen 2
          have r3 : v45.frozen? ⟨w.heap.size, 3, none⟩ = false := HT46.out.2.1.frozen 3
          have y0 : v45.cell? ⟨w.heap.size, 0, none⟩ = some (.int .i64 0) := HT46.out.2.1.cell 0
          have y1 : v45.cell? ⟨w.heap.size, 1, none⟩ = some (.string ⟨#[]⟩) := HT46.out.2.1.cell 1
          have y2 : v45.cell? ⟨w.heap.size, 2, none⟩ = some (.string ⟨#[]⟩) := HT46.out.2.1.cell 2
          have y3 : v45.cell? ⟨w.heap.size, 3, none⟩ = some (.int .i64 0) := HT46.out.2.1.cell 3
          simp only at t0 t1 t2 t3
          have hne : w.heap.size ≠ h := by have := HT46.out.2.2.1; omega
          have hne2 : h ≠ w.heap.size := by omega
          have HF := Lib.hid (AS.fin HT46.out hgl (.int .i64 (k0)) (.string d40) (.string ⟨#[]⟩) (.int .i64 (0)))
          have HB := Lib.hid (AS.askB HT46.out)
          go_wp2
          refine bodyPost_ret (v := .agg #[.int .i64 (k0), .string d40, .string ⟨#[]⟩, .int .i64 (0)]) ?_ rfl ⟨(k0, d40, ⟨#[]⟩, 0), (q41 + 1), rfl, HB.out, by omega, HF.out.1, HF.out.2⟩
          simp [results, Try.results160, go_sem, y0, y1, y2, y3]
      case true =>
        go_wp2_with fail
        generalize v38.setCell ⟨h, 1, none⟩ (.string d40) = u44 at *
        refine (l1Value_any w0 A bs c g q41 _ HS43.out.2.2.2.1 (by omega)).mono ?_
        rintro e v49 ⟨d51, q52, rfl, hq52, hRd51, hGd51⟩
        have HD50 := Lib.hid (HS43.out.draw hRd51 hGd51 hgl HNE.out)
        have z53 := HD50.out.1.frozen 3
        have z53c := HD50.out.cells
        obtain ⟨z530, z531, z532, z533⟩ := z53c
        simp only at z530 z531 z532 z533
        have HS54 := Lib.hid (HD50.out.set 3 (.int .i64 d51) (k0, d40, ⟨#[]⟩, d51) rfl HD50.out.2.2.2.2.2.2 hgl HA2.out)
        have hzz53 : (v49.setCell ⟨h, 3, none⟩ (.int .i64 d51)).heap.size = v49.heap.size := World.size_setCell _ _ _
        clear hRd51 hGd51
        go_wp2_with fail
        generalize v49.setCell ⟨h, 3, none⟩ (.int .i64 d51) = u55 at *
        refine (pick_any w0 A bs c g q52 64 _ HS54.out.2.2.2.1 (by omega) (by omega)).mono ?_
        rintro e v56 ⟨j, hj, rfl, hR5, hG5⟩
        have HT57 := Lib.hid (HS54.out.draw hR5 hG5 hgl HNE.out)
        have HB5 := Lib.hid (HS54.out.2.2.2.2.2.2)
        clear HS54 hR5 hG5
        have hlh := HT57.out.2.2.1
        have hlw := HT57.out.2.1.lt
        have hlH := HT57.out.1.lt
        rcases (show j = 0 ∨ j = 1 ∨ j = 2 ∨ j = 3 ∨ 4 ≤ j by omega) with rfl | rfl | rfl | rfl | hj4
        · clear hj
          go_wp2_with fail
          have S9 := Sl.litN v56 3 kindBad #[.int .i64 0, .int .i64 10, .int .i64 (-1)] rfl
          have HW9 := Lib.hid (HT57.out.below ((Below.refl v56.heap.size v56).alloc (Nat.le_refl _) (.cells #[.int .i64 0, .int .i64 10, .int .i64 (-1)] 3)))
          have hg9 := HT57.out.2.2.2.1.1.lt
          refine (num_any w0 A bs c g (q52 + 1) _ kindBad 3 _ HW9.out.2.2.2.1 (by omega) (by decide) S9 (by intro b o h; simp at h; omega)).mono ?_
          rintro e v58 ⟨k9, -, rfl, hR9, hG9⟩
          have HT59 := Lib.hid (HW9.out.draw hR9 hG9 hgl HNE.out)
          have hlw := HT59.out.2.1.lt
          have hlH := HT59.out.1.lt
          clear hR9 hG9 HW9 S9 hg9 HT57
          obtain ⟨t0, t1, t2, t3⟩ := HT59.out.cells
          have r0 : v58.frozen? ⟨w.heap.size, 0, none⟩ = false := HT59.out.2.1.frozen 0
          have r1 : v58.frozen? ⟨w.heap.size, 1, none⟩ = false := HT59.out.2.1.frozen 1
          have r2 : v58.frozen? ⟨w.heap.size, 2, none⟩ = false := HT59.out.2.1.frozen 2
          have r3 : v58.frozen? ⟨w.heap.size, 3, none⟩ = false := HT59.out.2.1.frozen 3
          have y0 : v58.cell? ⟨w.heap.size, 0, none⟩ = some (.int .i64 0) := HT59.out.2.1.cell 0
          have y1 : v58.cell? ⟨w.heap.size, 1, none⟩ = some (.string ⟨#[]⟩) := HT59.out.2.1.cell 1
          have y2 : v58.cell? ⟨w.heap.size, 2, none⟩ = some (.string ⟨#[]⟩) := HT59.out.2.1.cell 2
          have y3 : v58.cell? ⟨w.heap.size, 3, none⟩ = some (.int .i64 0) := HT59.out.2.1.cell 3
          simp only at t0 t1 t2 t3
          have hne : w.heap.size ≠ h := by have := HT59.out.2.2.1; omega
          have hne2 : h ≠ w.heap.size := by omega
          have z0 := HT59.out.1.frozen 0
          have HF := Lib.hid (AS.fin (HT59.out.set 0 (.int .i64 k9) (k9, d40, ⟨#[]⟩, d51) rfl HT59.out.2.2.2.2.2.2 hgl HA2.out) hgl (.int .i64 (k9)) (.string d40) (.string ⟨#[]⟩) (.int .i64 (d51)))
          have HB := Lib.hid (AS.askB (HT59.out.set 0 (.int .i64 k9) (k9, d40, ⟨#[]⟩, d51) rfl HT59.out.2.2.2.2.2.2 hgl HA2.out))
          go_wp2
          refine bodyPost_ret (v := .agg #[.int .i64 (k9), .string d40, .string ⟨#[]⟩, .int .i64 (d51)]) ?_ rfl ⟨(k9, d40, ⟨#[]⟩, d51), (q52 + 1 + 1), rfl, HB.out, by omega, HF.out.1, HF.out.2⟩
          simp [results, Try.results160, go_sem, y0, y1, y2, y3]
        · clear hj
          obtain ⟨t0, t1, t2, t3⟩ := HT57.out.cells
          have r0 : v56.frozen? ⟨w.heap.size, 0, none⟩ = false := HT57.out.2.1.frozen 0
          have r1 : v56.frozen? ⟨w.heap.size, 1, none⟩ = false := HT57.out.2.1.frozen 1
          have r2 : v56.frozen? ⟨w.heap.size, 2, none⟩ = false := HT57.out.2.1.frozen 2
          have r3 : v56.frozen? ⟨w.heap.size, 3, none⟩ = false := HT57.out.2.1.frozen 3
          have y0 : v56.cell? ⟨w.heap.size, 0, none⟩ = some (.int .i64 0) := HT57.out.2.1.cell 0
          have y1 : v56.cell? ⟨w.heap.size, 1, none⟩ = some (.string ⟨#[]⟩) := HT57.out.2.1.cell 1
          have y2 : v56.cell? ⟨w.heap.size, 2, none⟩ = some (.string ⟨#[]⟩) := HT57.out.2.1.cell 2
          have y3 : v56.cell? ⟨w.heap.size, 3, none⟩ = some (.int .i64 0) := HT57.out.2.1.cell 3
          simp only at t0 t1 t2 t3
          have hne : w.heap.size ≠ h := by have := HT57.out.2.2.1; omega
          have hne2 : h ≠ w.heap.size := by omega
          have z2 := HT57.out.1.frozen 2
          have HF := Lib.hid (AS.fin (HT57.out.set 2 (.string ⟨#[98]⟩) (k0, d40, ⟨#[98]⟩, d51) rfl ⟨HB5.out.1, Nat.le_trans (by decide : (⟨#[98]⟩ : ByteArray).size ≤ 1) (by decide)⟩ hgl HA2.out) hgl (.int .i64 (k0)) (.string d40) (.string ⟨#[98]⟩) (.int .i64 (d51)))
          have HB := Lib.hid (AS.askB (HT57.out.set 2 (.string ⟨#[98]⟩) (k0, d40, ⟨#[98]⟩, d51) rfl ⟨HB5.out.1, Nat.le_trans (by decide : (⟨#[98]⟩ : ByteArray).size ≤ 1) (by decide)⟩ hgl HA2.out))
          go_wp2
          refine bodyPost_ret (v := .agg #[.int .i64 (k0), .string d40, .string ⟨#[98]⟩, .int .i64 (d51)]) ?_ rfl ⟨(k0, d40, ⟨#[98]⟩, d51), (q52 + 1), rfl, HB.out, by omega, HF.out.1, HF.out.2⟩
          simp [results, Try.results160, go_sem, y0, y1, y2, y3]
        · clear hj
          obtain ⟨t0, t1, t2, t3⟩ := HT57.out.cells
          have r0 : v56.frozen? ⟨w.heap.size, 0, none⟩ = false := HT57.out.2.1.frozen 0
          have r1 : v56.frozen? ⟨w.heap.size, 1, none⟩ = false := HT57.out.2.1.frozen 1
          have r2 : v56.frozen? ⟨w.heap.size, 2, none⟩ = false := HT57.out.2.1.frozen 2
          have r3 : v56.frozen? ⟨w.heap.size, 3, none⟩ = false := HT57.out.2.1.frozen 3
          have y0 : v56.cell? ⟨w.heap.size, 0, none⟩ = some (.int .i64 0) := HT57.out.2.1.cell 0
          have y1 : v56.cell? ⟨w.heap.size, 1, none⟩ = some (.string ⟨#[]⟩) := HT57.out.2.1.cell 1
          have y2 : v56.cell? ⟨w.heap.size, 2, none⟩ = some (.string ⟨#[]⟩) := HT57.out.2.1.cell 2
          have y3 : v56.cell? ⟨w.heap.size, 3, none⟩ = some (.int .i64 0) := HT57.out.2.1.cell 3
          simp only at t0 t1 t2 t3
          have hne : w.heap.size ≠ h := by have := HT57.out.2.2.1; omega
          have hne2 : h ≠ w.heap.size := by omega
          have z3 := HT57.out.1.frozen 3
          have HF := Lib.hid (AS.fin (HT57.out.set 3 (.int .i64 5) (k0, d40, ⟨#[]⟩, 5) rfl HB5.out hgl HA2.out) hgl (.int .i64 (k0)) (.string d40) (.string ⟨#[]⟩) (.int .i64 (5)))
          have HB := Lib.hid (AS.askB (HT57.out.set 3 (.int .i64 5) (k0, d40, ⟨#[]⟩, 5) rfl HB5.out hgl HA2.out))
          go_wp2
          refine bodyPost_ret (v := .agg #[.int .i64 (k0), .string d40, .string ⟨#[]⟩, .int .i64 (5)]) ?_ rfl ⟨(k0, d40, ⟨#[]⟩, 5), (q52 + 1), rfl, HB.out, by omega, HF.out.1, HF.out.2⟩
          simp [results, Try.results160, go_sem, y0, y1, y2, y3]
        · clear hj
          obtain ⟨t0, t1, t2, t3⟩ := HT57.out.cells
          have r0 : v56.frozen? ⟨w.heap.size, 0, none⟩ = false := HT57.out.2.1.frozen 0
          have r1 : v56.frozen? ⟨w.heap.size, 1, none⟩ = false := HT57.out.2.1.frozen 1
          have r2 : v56.frozen? ⟨w.heap.size, 2, none⟩ = false := HT57.out.2.1.frozen 2
          have r3 : v56.frozen? ⟨w.heap.size, 3, none⟩ = false := HT57.out.2.1.frozen 3
          have y0 : v56.cell? ⟨w.heap.size, 0, none⟩ = some (.int .i64 0) := HT57.out.2.1.cell 0
          have y1 : v56.cell? ⟨w.heap.size, 1, none⟩ = some (.string ⟨#[]⟩) := HT57.out.2.1.cell 1
          have y2 : v56.cell? ⟨w.heap.size, 2, none⟩ = some (.string ⟨#[]⟩) := HT57.out.2.1.cell 2
          have y3 : v56.cell? ⟨w.heap.size, 3, none⟩ = some (.int .i64 0) := HT57.out.2.1.cell 3
          simp only at t0 t1 t2 t3
          have hne : w.heap.size ≠ h := by have := HT57.out.2.2.1; omega
          have hne2 : h ≠ w.heap.size := by omega
          have z1 := HT57.out.1.frozen 1
          have HF := Lib.hid (AS.fin (HT57.out.set 1 (.string ⟨#[]⟩) (k0, ⟨#[]⟩, ⟨#[]⟩, d51) rfl ⟨Nat.zero_le _, HB5.out.2⟩ hgl HA2.out) hgl (.int .i64 (k0)) (.string ⟨#[]⟩) (.string ⟨#[]⟩) (.int .i64 (d51)))
          have HB := Lib.hid (AS.askB (HT57.out.set 1 (.string ⟨#[]⟩) (k0, ⟨#[]⟩, ⟨#[]⟩, d51) rfl ⟨Nat.zero_le _, HB5.out.2⟩ hgl HA2.out))
          go_wp2
          refine bodyPost_ret (v := .agg #[.int .i64 (k0), .string ⟨#[]⟩, .string ⟨#[]⟩, .int .i64 (d51)]) ?_ rfl ⟨(k0, ⟨#[]⟩, ⟨#[]⟩, d51), (q52 + 1), rfl, HB.out, by omega, HF.out.1, HF.out.2⟩
          simp [results, Try.results160, go_sem, y0, y1, y2, y3]
        · have e0 : (((j : Nat) : Int) == 0) = false := beq_eq_false_iff_ne.2 (by omega)
          have e1 : (((j : Nat) : Int) == 1) = false := beq_eq_false_iff_ne.2 (by omega)
          have e2 : (((j : Nat) : Int) == 2) = false := beq_eq_false_iff_ne.2 (by omega)
          have e3 : (((j : Nat) : Int) == 3) = false := beq_eq_false_iff_ne.2 (by omega)
          have n0 : ¬ ((j : Nat) : Int) = 0 := by omega
          have n1 : ¬ ((j : Nat) : Int) = 1 := by omega
          have n2 : ¬ ((j : Nat) : Int) = 2 := by omega
          have n3 : ¬ ((j : Nat) : Int) = 3 := by omega
          obtain ⟨t0, t1, t2, t3⟩ := HT57.out.cells
          have r0 : v56.frozen? ⟨w.heap.size, 0, none⟩ = false := HT57.out.2.1.frozen 0
          have r1 : v56.frozen? ⟨w.heap.size, 1, none⟩ = false := HT57.out.2.1.frozen 1
          have r2 : v56.frozen? ⟨w.heap.size, 2, none⟩ = false := HT57.out.2.1.frozen 2
          have r3 : v56.frozen? ⟨w.heap.size, 3, none⟩ = false := HT57.out.2.1.frozen 3
          have y0 : v56.cell? ⟨w.heap.size, 0, none⟩ = some (.int .i64 0) := HT57.out.2.1.cell 0
          have y1 : v56.cell? ⟨w.heap.size, 1, none⟩ = some (.string ⟨#[]⟩) := HT57.out.2.1.cell 1
          have y2 : v56.cell? ⟨w.heap.size, 2, none⟩ = some (.string ⟨#[]⟩) := HT57.out.2.1.cell 2
          have y3 : v56.cell? ⟨w.heap.size, 3, none⟩ = some (.int .i64 0) := HT57.out.2.1.cell 3
          simp only at t0 t1 t2 t3
          have hne : w.heap.size ≠ h := by have := HT57.out.2.2.1; omega
          have hne2 : h ≠ w.heap.size := by omega
          have HF := Lib.hid (AS.fin HT57.out hgl (.int .i64 (k0)) (.string d40) (.string ⟨#[]⟩) (.int .i64 (d51)))
          have HB := Lib.hid (AS.askB HT57.out)
          go_wp2
          refine bodyPost_ret (v := .agg #[.int .i64 (k0), .string d40, .string ⟨#[]⟩, .int .i64 (d51)]) ?_ rfl ⟨(k0, d40, ⟨#[]⟩, d51), (q52 + 1), rfl, HB.out, by omega, HF.out.1, HF.out.2⟩
          simp [results, Try.results160, go_sem, y0, y1, y2, y3]
    case true =>
      go_wp2_with fail
      generalize v38.setCell ⟨h, 1, none⟩ (.string d40) = u44 at *
      have S2 := Sl.litS u44 9 hiOf #[.string ⟨#[122]⟩, .string ⟨#[99]⟩, .string ⟨#[122, 122]⟩, .string ⟨#[98]⟩, .string ⟨#[97]⟩] rfl
      rw [hzz42] at S2
      have hw2 := (Below.refl u44.heap.size u44).alloc (Nat.le_refl _) (.cells #[.string ⟨#[122]⟩, .string ⟨#[99]⟩, .string ⟨#[122, 122]⟩, .string ⟨#[98]⟩, .string ⟨#[97]⟩] 9)
      have HWa := Lib.hid (HS43.out.below hw2)
      have hgW := HS43.out.2.2.2.1.1.lt
      rw [hzz42] at hgW
      refine (of_any w0 A bs c g q41 _ hiOf 5 _ HWa.out.2.2.2.1 (by omega) (by decide) S2 (by intro b o h; simp at h; omega)).mono ?_
      rintro e v60 ⟨d62, hd62, rfl, hRd62, hGd62⟩
      have HD61 := Lib.hid (HWa.out.draw hRd62 hGd62 hgl HNE.out)
      have z64 := HD61.out.1.frozen 2
      have z64c := HD61.out.cells
      obtain ⟨z640, z641, z642, z643⟩ := z64c
      simp only at z640 z641 z642 z643
      have HS65 := Lib.hid (HD61.out.set 2 (.string d62) (k0, d40, d62, 0) rfl ⟨HD61.out.2.2.2.2.2.2.1, Nat.le_trans (hiOf_le _ hd62) (by decide)⟩ hgl HA2.out)
      have hzz64 : (v60.setCell ⟨h, 2, none⟩ (.string d62)).heap.size = v60.heap.size := World.size_setCell _ _ _
      clear hRd62 hGd62 HWa hw2 S2
      cases s3
      case false =>
        go_wp2_with fail
        generalize v60.setCell ⟨h, 2, none⟩ (.string d62) = u66 at *
        refine (pick_any w0 A bs c g (q41 + 1) 64 _ HS65.out.2.2.2.1 (by omega) (by omega)).mono ?_
        rintro e v67 ⟨j, hj, rfl, hR5, hG5⟩
        have HT68 := Lib.hid (HS65.out.draw hR5 hG5 hgl HNE.out)
        have HB5 := Lib.hid (HS65.out.2.2.2.2.2.2)
        clear HS65 hR5 hG5
        have hlh := HT68.out.2.2.1
        have hlw := HT68.out.2.1.lt
        have hlH := HT68.out.1.lt
        rcases (show j = 0 ∨ j = 1 ∨ j = 2 ∨ j = 3 ∨ 4 ≤ j by omega) with rfl | rfl | rfl | rfl | hj4
        · clear hj
          go_wp2_with fail
          have S9 := Sl.litN v67 3 kindBad #[.int .i64 0, .int .i64 10, .int .i64 (-1)] rfl
          have HW9 := Lib.hid (HT68.out.below ((Below.refl v67.heap.size v67).alloc (Nat.le_refl _) (.cells #[.int .i64 0, .int .i64 10, .int .i64 (-1)] 3)))
          have hg9 := HT68.out.2.2.2.1.1.lt
          refine (num_any w0 A bs c g ((q41 + 1) + 1) _ kindBad 3 _ HW9.out.2.2.2.1 (by omega) (by decide) S9 (by intro b o h; simp at h; omega)).mono ?_
          rintro e v69 ⟨k9, -, rfl, hR9, hG9⟩
          have HT70 := Lib.hid (HW9.out.draw hR9 hG9 hgl HNE.out)
          have hlw := HT70.out.2.1.lt
          have hlH := HT70.out.1.lt
          clear hR9 hG9 HW9 S9 hg9 HT68
          obtain ⟨t0, t1, t2, t3⟩ := HT70.out.cells
          have r0 : v69.frozen? ⟨w.heap.size, 0, none⟩ = false := HT70.out.2.1.frozen 0
          have r1 : v69.frozen? ⟨w.heap.size, 1, none⟩ = false := HT70.out.2.1.frozen 1
          have r2 : v69.frozen? ⟨w.heap.size, 2, none⟩ = false := HT70.out.2.1.frozen 2
          have r3 : v69.frozen? ⟨w.heap.size, 3, none⟩ = false := HT70.out.2.1.frozen 3
          have y0 : v69.cell? ⟨w.heap.size, 0, none⟩ = some (.int .i64 0) := HT70.out.2.1.cell 0
          have y1 : v69.cell? ⟨w.heap.size, 1, none⟩ = some (.string ⟨#[]⟩) := HT70.out.2.1.cell 1
          have y2 : v69.cell? ⟨w.heap.size, 2, none⟩ = some (.string ⟨#[]⟩) := HT70.out.2.1.cell 2
          have y3 : v69.cell? ⟨w.heap.size, 3, none⟩ = some (.int .i64 0) := HT70.out.2.1.cell 3
          simp only at t0 t1 t2 t3
          have hne : w.heap.size ≠ h := by have := HT70.out.2.2.1; omega
          have hne2 : h ≠ w.heap.size := by omega
          have z0 := HT70.out.1.frozen 0
          have HF := Lib.hid (AS.fin (HT70.out.set 0 (.int .i64 k9) (k9, d40, d62, 0) rfl HT70.out.2.2.2.2.2.2 hgl HA2.out) hgl (.int .i64 (k9)) (.string d40) (.string d62) (.int .i64 (0)))
          have HB := Lib.hid (AS.askB (HT70.out.set 0 (.int .i64 k9) (k9, d40, d62, 0) rfl HT70.out.2.2.2.2.2.2 hgl HA2.out))
          go_wp2
          refine bodyPost_ret (v := .agg #[.int .i64 (k9), .string d40, .string d62, .int .i64 (0)]) ?_ rfl ⟨(k9, d40, d62, 0), ((q41 + 1) + 1 + 1), rfl, HB.out, by omega, HF.out.1, HF.out.2⟩
          simp [results, Try.results160, go_sem, y0, y1, y2, y3]
        · clear hj
          obtain ⟨t0, t1, t2, t3⟩ := HT68.out.cells
          have r0 : v67.frozen? ⟨w.heap.size, 0, none⟩ = false := HT68.out.2.1.frozen 0
          have r1 : v67.frozen? ⟨w.heap.size, 1, none⟩ = false := HT68.out.2.1.frozen 1
          have r2 : v67.frozen? ⟨w.heap.size, 2, none⟩ = false := HT68.out.2.1.frozen 2
          have r3 : v67.frozen? ⟨w.heap.size, 3, none⟩ = false := HT68.out.2.1.frozen 3
          have y0 : v67.cell? ⟨w.heap.size, 0, none⟩ = some (.int .i64 0) := HT68.out.2.1.cell 0
          have y1 : v67.cell? ⟨w.heap.size, 1, none⟩ = some (.string ⟨#[]⟩) := HT68.out.2.1.cell 1
          have y2 : v67.cell? ⟨w.heap.size, 2, none⟩ = some (.string ⟨#[]⟩) := HT68.out.2.1.cell 2
          have y3 : v67.cell? ⟨w.heap.size, 3, none⟩ = some (.int .i64 0) := HT68.out.2.1.cell 3
          simp only at t0 t1 t2 t3
          have hne : w.heap.size ≠ h := by have := HT68.out.2.2.1; omega
          have hne2 : h ≠ w.heap.size := by omega
          have z2 := HT68.out.1.frozen 2
          have HF := Lib.hid (AS.fin (HT68.out.set 2 (.string ⟨#[98]⟩) (k0, d40, ⟨#[98]⟩, 0) rfl ⟨HB5.out.1, Nat.le_trans (by decide : (⟨#[98]⟩ : ByteArray).size ≤ 1) (by decide)⟩ hgl HA2.out) hgl (.int .i64 (k0)) (.string d40) (.string ⟨#[98]⟩) (.int .i64 (0)))
          have HB := Lib.hid (AS.askB (HT68.out.set 2 (.string ⟨#[98]⟩) (k0, d40, ⟨#[98]⟩, 0) rfl ⟨HB5.out.1, Nat.le_trans (by decide : (⟨#[98]⟩ : ByteArray).size ≤ 1) (by decide)⟩ hgl HA2.out))
          go_wp2
          refine bodyPost_ret (v := .agg #[.int .i64 (k0), .string d40, .string ⟨#[98]⟩, .int .i64 (0)]) ?_ rfl ⟨(k0, d40, ⟨#[98]⟩, 0), ((q41 + 1) + 1), rfl, HB.out, by omega, HF.out.1, HF.out.2⟩
          simp [results, Try.results160, go_sem, y0, y1, y2, y3]
        · clear hj
          obtain ⟨t0, t1, t2, t3⟩ := HT68.out.cells
          have r0 : v67.frozen? ⟨w.heap.size, 0, none⟩ = false := HT68.out.2.1.frozen 0
          have r1 : v67.frozen? ⟨w.heap.size, 1, none⟩ = false := HT68.out.2.1.frozen 1
          have r2 : v67.frozen? ⟨w.heap.size, 2, none⟩ = false := HT68.out.2.1.frozen 2
          have r3 : v67.frozen? ⟨w.heap.size, 3, none⟩ = false := HT68.out.2.1.frozen 3
          have y0 : v67.cell? ⟨w.heap.size, 0, none⟩ = some (.int .i64 0) := HT68.out.2.1.cell 0
          have y1 : v67.cell? ⟨w.heap.size, 1, none⟩ = some (.string ⟨#[]⟩) := HT68.out.2.1.cell 1
          have y2 : v67.cell? ⟨w.heap.size, 2, none⟩ = some (.string ⟨#[]⟩) := HT68.out.2.1.cell 2
          have y3 : v67.cell? ⟨w.heap.size, 3, none⟩ = some (.int .i64 0) := HT68.out.2.1.cell 3
          simp only at t0 t1 t2 t3
          have hne : w.heap.size ≠ h := by have := HT68.out.2.2.1; omega
          have hne2 : h ≠ w.heap.size := by omega
          have z3 := HT68.out.1.frozen 3
          have HF := Lib.hid (AS.fin (HT68.out.set 3 (.int .i64 5) (k0, d40, d62, 5) rfl HB5.out hgl HA2.out) hgl (.int .i64 (k0)) (.string d40) (.string d62) (.int .i64 (5)))
          have HB := Lib.hid (AS.askB (HT68.out.set 3 (.int .i64 5) (k0, d40, d62, 5) rfl HB5.out hgl HA2.out))
          go_wp2
          refine bodyPost_ret (v := .agg #[.int .i64 (k0), .string d40, .string d62, .int .i64 (5)]) ?_ rfl ⟨(k0, d40, d62, 5), ((q41 + 1) + 1), rfl, HB.out, by omega, HF.out.1, HF.out.2⟩
          simp [results, Try.results160, go_sem, y0, y1, y2, y3]
        · clear hj
          obtain ⟨t0, t1, t2, t3⟩ := HT68.out.cells
          have r0 : v67.frozen? ⟨w.heap.size, 0, none⟩ = false := HT68.out.2.1.frozen 0
          have r1 : v67.frozen? ⟨w.heap.size, 1, none⟩ = false := HT68.out.2.1.frozen 1
          have r2 : v67.frozen? ⟨w.heap.size, 2, none⟩ = false := HT68.out.2.1.frozen 2
          have r3 : v67.frozen? ⟨w.heap.size, 3, none⟩ = false := HT68.out.2.1.frozen 3
          have y0 : v67.cell? ⟨w.heap.size, 0, none⟩ = some (.int .i64 0) := HT68.out.2.1.cell 0
          have y1 : v67.cell? ⟨w.heap.size, 1, none⟩ = some (.string ⟨#[]⟩) := HT68.out.2.1.cell 1
          have y2 : v67.cell? ⟨w.heap.size, 2, none⟩ = some (.string ⟨#[]⟩) := HT68.out.2.1.cell 2
          have y3 : v67.cell? ⟨w.heap.size, 3, none⟩ = some (.int .i64 0) := HT68.out.2.1.cell 3
          simp only at t0 t1 t2 t3
          have hne : w.heap.size ≠ h := by have := HT68.out.2.2.1; omega
          have hne2 : h ≠ w.heap.size := by omega
          have z1 := HT68.out.1.frozen 1
          have HF := Lib.hid (AS.fin (HT68.out.set 1 (.string ⟨#[]⟩) (k0, ⟨#[]⟩, d62, 0) rfl ⟨Nat.zero_le _, HB5.out.2⟩ hgl HA2.out) hgl (.int .i64 (k0)) (.string ⟨#[]⟩) (.string d62) (.int .i64 (0)))
          have HB := Lib.hid (AS.askB (HT68.out.set 1 (.string ⟨#[]⟩) (k0, ⟨#[]⟩, d62, 0) rfl ⟨Nat.zero_le _, HB5.out.2⟩ hgl HA2.out))
          go_wp2
          refine bodyPost_ret (v := .agg #[.int .i64 (k0), .string ⟨#[]⟩, .string d62, .int .i64 (0)]) ?_ rfl ⟨(k0, ⟨#[]⟩, d62, 0), ((q41 + 1) + 1), rfl, HB.out, by omega, HF.out.1, HF.out.2⟩
          simp [results, Try.results160, go_sem, y0, y1, y2, y3]
        · have e0 : (((j : Nat) : Int) == 0) = false := beq_eq_false_iff_ne.2 (by omega)
          have e1 : (((j : Nat) : Int) == 1) = false := beq_eq_false_iff_ne.2 (by omega)
          have e2 : (((j : Nat) : Int) == 2) = false := beq_eq_false_iff_ne.2 (by omega)
          have e3 : (((j : Nat) : Int) == 3) = false := beq_eq_false_iff_ne.2 (by omega)
          have n0 : ¬ ((j : Nat) : Int) = 0 := by omega
          have n1 : ¬ ((j : Nat) : Int) = 1 := by omega
          have n2 : ¬ ((j : Nat) : Int) = 2 := by omega
          have n3 : ¬ ((j : Nat) : Int) = 3 := by omega
          obtain ⟨t0, t1, t2, t3⟩ := HT68.out.cells
          have r0 : v67.frozen? ⟨w.heap.size, 0, none⟩ = false := HT68.out.2.1.frozen 0
          have r1 : v67.frozen? ⟨w.heap.size, 1, none⟩ = false := HT68.out.2.1.frozen 1
          have r2 : v67.frozen? ⟨w.heap.size, 2, none⟩ = false := HT68.out.2.1.frozen 2
          have r3 : v67.frozen? ⟨w.heap.size, 3, none⟩ = false := HT68.out.2.1.frozen 3
          have y0 : v67.cell? ⟨w.heap.size, 0, none⟩ = some (.int .i64 0) := HT68.out.2.1.cell 0
          have y1 : v67.cell? ⟨w.heap.size, 1, none⟩ = some (.string ⟨#[]⟩) := HT68.out.2.1.cell 1
          have y2 : v67.cell? ⟨w.heap.size, 2, none⟩ = some (.string ⟨#[]⟩) := HT68.out.2.1.cell 2
          have y3 : v67.cell? ⟨w.heap.size, 3, none⟩ = some (.int .i64 0) := HT68.out.2.1.cell 3
          simp only at t0 t1 t2 t3
          have hne : w.heap.size ≠ h := by have := HT68.out.2.2.1; omega
          have hne2 : h ≠ w.heap.size := by omega
          have HF := Lib.hid (AS.fin HT68.out hgl (.int .i64 (k0)) (.string d40) (.string d62) (.int .i64 (0)))
          have HB := Lib.hid (AS.askB HT68.out)
          go_wp2
          refine bodyPost_ret (v := .agg #[.int .i64 (k0), .string d40, .string d62, .int .i64 (0)]) ?_ rfl ⟨(k0, d40, d62, 0), ((q41 + 1) + 1), rfl, HB.out, by omega, HF.out.1, HF.out.2⟩
          simp [results, Try.results160, go_sem, y0, y1, y2, y3]
      case true =>
        go_wp2_with fail
        generalize v60.setCell ⟨h, 2, none⟩ (.string d62) = u66 at *
        refine (l1Value_any w0 A bs c g (q41 + 1) _ HS65.out.2.2.2.1 (by omega)).mono ?_
        rintro e v71 ⟨d73, q74, rfl, hq74, hRd73, hGd73⟩
        have HD72 := Lib.hid (HS65.out.draw hRd73 hGd73 hgl HNE.out)
        have z75 := HD72.out.1.frozen 3
        have z75c := HD72.out.cells
        obtain ⟨z750, z751, z752, z753⟩ := z75c
        simp only at z750 z751 z752 z753
        have HS76 := Lib.hid (HD72.out.set 3 (.int .i64 d73) (k0, d40, d62, d73) rfl HD72.out.2.2.2.2.2.2 hgl HA2.out)
        have hzz75 : (v71.setCell ⟨h, 3, none⟩ (.int .i64 d73)).heap.size = v71.heap.size := World.size_setCell _ _ _
        clear hRd73 hGd73
        go_wp2_with fail
        generalize v71.setCell ⟨h, 3, none⟩ (.int .i64 d73) = u77 at *
        refine (pick_any w0 A bs c g q74 64 _ HS76.out.2.2.2.1 (by omega) (by omega)).mono ?_
        rintro e v78 ⟨j, hj, rfl, hR5, hG5⟩
        have HT79 := Lib.hid (HS76.out.draw hR5 hG5 hgl HNE.out)
        have HB5 := Lib.hid (HS76.out.2.2.2.2.2.2)
        clear HS76 hR5 hG5
        have hlh := HT79.out.2.2.1
        have hlw := HT79.out.2.1.lt
        have hlH := HT79.out.1.lt
        rcases (show j = 0 ∨ j = 1 ∨ j = 2 ∨ j = 3 ∨ 4 ≤ j by omega) with rfl | rfl | rfl | rfl | hj4
        · clear hj
          go_wp2_with fail
          have S9 := Sl.litN v78 3 kindBad #[.int .i64 0, .int .i64 10, .int .i64 (-1)] rfl
          have HW9 := Lib.hid (HT79.out.below ((Below.refl v78.heap.size v78).alloc (Nat.le_refl _) (.cells #[.int .i64 0, .int .i64 10, .int .i64 (-1)] 3)))
          have hg9 := HT79.out.2.2.2.1.1.lt
          refine (num_any w0 A bs c g (q74 + 1) _ kindBad 3 _ HW9.out.2.2.2.1 (by omega) (by decide) S9 (by intro b o h; simp at h; omega)).mono ?_
          rintro e v80 ⟨k9, -, rfl, hR9, hG9⟩
          have HT81 := Lib.hid (HW9.out.draw hR9 hG9 hgl HNE.out)
          have hlw := HT81.out.2.1.lt
          have hlH := HT81.out.1.lt
          clear hR9 hG9 HW9 S9 hg9 HT79
          obtain ⟨t0, t1, t2, t3⟩ := HT81.out.cells
          have r0 : v80.frozen? ⟨w.heap.size, 0, none⟩ = false := HT81.out.2.1.frozen 0
          have r1 : v80.frozen? ⟨w.heap.size, 1, none⟩ = false := HT81.out.2.1.frozen 1
          have r2 : v80.frozen? ⟨w.heap.size, 2, none⟩ = false := HT81.out.2.1.frozen 2
          have r3 : v80.frozen? ⟨w.heap.size, 3, none⟩ = false := HT81.out.2.1.frozen 3
          have y0 : v80.cell? ⟨w.heap.size, 0, none⟩ = some (.int .i64 0) := HT81.out.2.1.cell 0
          have y1 : v80.cell? ⟨w.heap.size, 1, none⟩ = some (.string ⟨#[]⟩) := HT81.out.2.1.cell 1
          have y2 : v80.cell? ⟨w.heap.size, 2, none⟩ = some (.string ⟨#[]⟩) := HT81.out.2.1.cell 2
          have y3 : v80.cell? ⟨w.heap.size, 3, none⟩ = some (.int .i64 0) := HT81.out.2.1.cell 3
          simp only at t0 t1 t2 t3
          have hne : w.heap.size ≠ h := by have := HT81.out.2.2.1; omega
          have hne2 : h ≠ w.heap.size := by omega
          have z0 := HT81.out.1.frozen 0
          have HF := Lib.hid (AS.fin (HT81.out.set 0 (.int .i64 k9) (k9, d40, d62, d73) rfl HT81.out.2.2.2.2.2.2 hgl HA2.out) hgl (.int .i64 (k9)) (.string d40) (.string d62) (.int .i64 (d73)))
          have HB := Lib.hid (AS.askB (HT81.out.set 0 (.int .i64 k9) (k9, d40, d62, d73) rfl HT81.out.2.2.2.2.2.2 hgl HA2.out))
          go_wp2
          refine bodyPost_ret (v := .agg #[.int .i64 (k9), .string d40, .string d62, .int .i64 (d73)]) ?_ rfl ⟨(k9, d40, d62, d73), (q74 + 1 + 1), rfl, HB.out, by omega, HF.out.1, HF.out.2⟩
          simp [results, Try.results160, go_sem, y0, y1, y2, y3]
        · clear hj
          obtain ⟨t0, t1, t2, t3⟩ := HT79.out.cells
          have r0 : v78.frozen? ⟨w.heap.size, 0, none⟩ = false := HT79.out.2.1.frozen 0
          have r1 : v78.frozen? ⟨w.heap.size, 1, none⟩ = false := HT79.out.2.1.frozen 1
          have r2 : v78.frozen? ⟨w.heap.size, 2, none⟩ = false := HT79.out.2.1.frozen 2
          have r3 : v78.frozen? ⟨w.heap.size, 3, none⟩ = false := HT79.out.2.1.frozen 3
          have y0 : v78.cell? ⟨w.heap.size, 0, none⟩ = some (.int .i64 0) := HT79.out.2.1.cell 0
          have y1 : v78.cell? ⟨w.heap.size, 1, none⟩ = some (.string ⟨#[]⟩) := HT79.out.2.1.cell 1
          have y2 : v78.cell? ⟨w.heap.size, 2, none⟩ = some (.string ⟨#[]⟩) := HT79.out.2.1.cell 2
          have y3 : v78.cell? ⟨w.heap.size, 3, none⟩ = some (.int .i64 0) := HT79.out.2.1.cell 3
          simp only at t0 t1 t2 t3
          have hne : w.heap.size ≠ h := by have := HT79.out.2.2.1; omega
          have hne2 : h ≠ w.heap.size := by omega
          have z2 := HT79.out.1.frozen 2
          have HF := Lib.hid (AS.fin (HT79.out.set 2 (.string ⟨#[98]⟩) (k0, d40, ⟨#[98]⟩, d73) rfl ⟨HB5.out.1, Nat.le_trans (by decide : (⟨#[98]⟩ : ByteArray).size ≤ 1) (by decide)⟩ hgl HA2.out) hgl (.int .i64 (k0)) (.string d40) (.string ⟨#[98]⟩) (.int .i64 (d73)))
          have HB := Lib.hid (AS.askB (HT79.out.set 2 (.string ⟨#[98]⟩) (k0, d40, ⟨#[98]⟩, d73) rfl ⟨HB5.out.1, Nat.le_trans (by decide : (⟨#[98]⟩ : ByteArray).size ≤ 1) (by decide)⟩ hgl HA2.out))
          go_wp2
          refine bodyPost_ret (v := .agg #[.int .i64 (k0), .string d40, .string ⟨#[98]⟩, .int .i64 (d73)]) ?_ rfl ⟨(k0, d40, ⟨#[98]⟩, d73), (q74 + 1), rfl, HB.out, by omega, HF.out.1, HF.out.2⟩
          simp [results, Try.results160, go_sem, y0, y1, y2, y3]
        · clear hj
          obtain ⟨t0, t1, t2, t3⟩ := HT79.out.cells
          have r0 : v78.frozen? ⟨w.heap.size, 0, none⟩ = false := HT79.out.2.1.frozen 0
          have r1 : v78.frozen? ⟨w.heap.size, 1, none⟩ = false := HT79.out.2.1.frozen 1
          have r2 : v78.frozen? ⟨w.heap.size, 2, none⟩ = false := HT79.out.2.1.frozen 2
          have r3 : v78.frozen? ⟨w.heap.size, 3, none⟩ = false := HT79.out.2.1.frozen 3
          have y0 : v78.cell? ⟨w.heap.size, 0, none⟩ = some (.int .i64 0) := HT79.out.2.1.cell 0
          have y1 : v78.cell? ⟨w.heap.size, 1, none⟩ = some (.string ⟨#[]⟩) := HT79.out.2.1.cell 1
          have y2 : v78.cell? ⟨w.heap.size, 2, none⟩ = some (.string ⟨#[]⟩) := HT79.out.2.1.cell 2
          have y3 : v78.cell? ⟨w.heap.size, 3, none⟩ = some (.int .i64 0) := HT79.out.2.1.cell 3
          simp only at t0 t1 t2 t3
          have hne : w.heap.size ≠ h := by have := HT79.out.2.2.1; omega
          have hne2 : h ≠ w.heap.size := by omega
          have z3 := HT79.out.1.frozen 3
          have HF := Lib.hid (AS.fin (HT79.out.set 3 (.int .i64 5) (k0, d40, d62, 5) rfl HB5.out hgl HA2.out) hgl (.int .i64 (k0)) (.string d40) (.string d62) (.int .i64 (5)))
          have HB := Lib.hid (AS.askB (HT79.out.set 3 (.int .i64 5) (k0, d40, d62, 5) rfl HB5.out hgl HA2.out))
          go_wp2
          refine bodyPost_ret (v := .agg #[.int .i64 (k0), .string d40, .string d62, .int .i64 (5)]) ?_ rfl ⟨(k0, d40, d62, 5), (q74 + 1), rfl, HB.out, by omega, HF.out.1, HF.out.2⟩
          simp [results, Try.results160, go_sem, y0, y1, y2, y3]
        · clear hj
          obtain ⟨t0, t1, t2, t3⟩ := HT79.out.cells
          have r0 : v78.frozen? ⟨w.heap.size, 0, none⟩ = false := HT79.out.2.1.frozen 0
          have r1 : v78.frozen? ⟨w.heap.size, 1, none⟩ = false := HT79.out.2.1.frozen 1
          have r2 : v78.frozen? ⟨w.heap.size, 2, none⟩ = false := HT79.out.2.1.frozen 2
          have r3 : v78.frozen? ⟨w.heap.size, 3, none⟩ = false := HT79.out.2.1.frozen 3
          have y0 : v78.cell? ⟨w.heap.size, 0, none⟩ = some (.int .i64 0) := HT79.out.2.1.cell 0
          have y1 : v78.cell? ⟨w.heap.size, 1, none⟩ = some (.string ⟨#[]⟩) := HT79.out.2.1.cell 1
          have y2 : v78.cell? ⟨w.heap.size, 2, none⟩ = some (.string ⟨#[]⟩) := HT79.out.2.1.cell 2
          have y3 : v78.cell? ⟨w.heap.size, 3, none⟩ = some (.int .i64 0) := HT79.out.2.1.cell 3
          simp only at t0 t1 t2 t3
          have hne : w.heap.size ≠ h := by have := HT79.out.2.2.1; omega
          have hne2 : h ≠ w.heap.size := by omega
          have z1 := HT79.out.1.frozen 1
          have HF := Lib.hid (AS.fin (HT79.out.set 1 (.string ⟨#[]⟩) (k0, ⟨#[]⟩, d62, d73) rfl ⟨Nat.zero_le _, HB5.out.2⟩ hgl HA2.out) hgl (.int .i64 (k0)) (.string ⟨#[]⟩) (.string d62) (.int .i64 (d73)))
          have HB := Lib.hid (AS.askB (HT79.out.set 1 (.string ⟨#[]⟩) (k0, ⟨#[]⟩, d62, d73) rfl ⟨Nat.zero_le _, HB5.out.2⟩ hgl HA2.out))
          go_wp2
          refine bodyPost_ret (v := .agg #[.int .i64 (k0), .string ⟨#[]⟩, .string d62, .int .i64 (d73)]) ?_ rfl ⟨(k0, ⟨#[]⟩, d62, d73), (q74 + 1), rfl, HB.out, by omega, HF.out.1, HF.out.2⟩
          simp [results, Try.results160, go_sem, y0, y1, y2, y3]
        · have e0 : (((j : Nat) : Int) == 0) = false := beq_eq_false_iff_ne.2 (by omega)
          have e1 : (((j : Nat) : Int) == 1) = false := beq_eq_false_iff_ne.2 (by omega)
          have e2 : (((j : Nat) : Int) == 2) = false := beq_eq_false_iff_ne.2 (by omega)
          have e3 : (((j : Nat) : Int) == 3) = false := beq_eq_false_iff_ne.2 (by omega)
          have n0 : ¬ ((j : Nat) : Int) = 0 := by omega
          have n1 : ¬ ((j : Nat) : Int) = 1 := by omega
          have n2 : ¬ ((j : Nat) : Int) = 2 := by omega
          have n3 : ¬ ((j : Nat) : Int) = 3 := by omega
          obtain ⟨t0, t1, t2, t3⟩ := HT79.out.cells
          have r0 : v78.frozen? ⟨w.heap.size, 0, none⟩ = false := HT79.out.2.1.frozen 0
          have r1 : v78.frozen? ⟨w.heap.size, 1, none⟩ = false := HT79.out.2.1.frozen 1
          have r2 : v78.frozen? ⟨w.heap.size, 2, none⟩ = false := HT79.out.2.1.frozen 2
          have r3 : v78.frozen? ⟨w.heap.size, 3, none⟩ = false := HT79.out.2.1.frozen 3
          have y0 : v78.cell? ⟨w.heap.size, 0, none⟩ = some (.int .i64 0) := HT79.out.2.1.cell 0
          have y1 : v78.cell? ⟨w.heap.size, 1, none⟩ = some (.string ⟨#[]⟩) := HT79.out.2.1.cell 1
          have y2 : v78.cell? ⟨w.heap.size, 2, none⟩ = some (.string ⟨#[]⟩) := HT79.out.2.1.cell 2
          have y3 : v78.cell? ⟨w.heap.size, 3, none⟩ = some (.int .i64 0) := HT79.out.2.1.cell 3
          simp only at t0 t1 t2 t3
          have hne : w.heap.size ≠ h := by have := HT79.out.2.2.1; omega
          have hne2 : h ≠ w.heap.size := by omega
          have HF := Lib.hid (AS.fin HT79.out hgl (.int .i64 (k0)) (.string d40) (.string d62) (.int .i64 (d73)))
          have HB := Lib.hid (AS.askB HT79.out)
          go_wp2
          refine bodyPost_ret (v := .agg #[.int .i64 (k0), .string d40, .string d62, .int .i64 (d73)]) ?_ rfl ⟨(k0, d40, d62, d73), (q74 + 1), rfl, HB.out, by omega, HF.out.1, HF.out.2⟩
          simp [results, Try.results160, go_sem, y0, y1, y2, y3]
end Go.Proofs.Ytpjkcmmmpgncmaa
