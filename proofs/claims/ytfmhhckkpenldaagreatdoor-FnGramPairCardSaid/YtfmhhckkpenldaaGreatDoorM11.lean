import Derived.BigQuiet
import Derived.Deep.RegionLaw
import Derived.Deep.Cut
import Derived.Deep.DeepCutAuto
import Derived.Test.YtfmhhckkpenldaaGreatDoorM23
import Derived.Test.YtfmhhckkpenldaaGreatDoorM08
import Derived.Test.YtfmhhckkpenldaaGreatDoorM13
/- The reference's l2Writes: what is drawn to be done. -/
namespace Go.Proofs.YtfmhhckkpenldaaGreatDoor
open Go.RowKit
/-- what stands while writes are drawn -/
def WS (w0 w : World) (A : Option Addr) (bs : List UInt8) (c g : Nat) (A2 : Option Addr) (rows : List Row) (g5 : Nat) (l : List Wri) (c5 q : Nat) (W : World) : Prop :=
  OwnW W w.heap.size (.slice (some ⟨g5, 0, none⟩) l.length c5) l ∧ Rd w0 W A bs c g q ∧ w.grownBy W (some g) ∧ Sl encRow 2 W A2 rows ∧ FitsW l
theorem WS.below {w0 w : World} {A : Option Addr} {bs : List UInt8} {c g : Nat} {A2 : Option Addr} {rows : List Row} {g5 : Nat} {l : List Wri} {c5 q : Nat} {W W' : World} (h : WS w0 w A bs c g A2 rows g5 l c5 q W) (hb : Below W.heap.size W W') : WS w0 w A bs c g A2 rows g5 l c5 q W' := by
  obtain ⟨h1, h2, h3, h4, h5⟩ := h
  exact ⟨h1.below hb, h2.below hb, gr_trans h3 (gr_below hb), h4.below hb, h5⟩
theorem WS.draw {w0 w : World} {A : Option Addr} {bs : List UInt8} {c g : Nat} {A2 : Option Addr} {rows : List Row} {g5 : Nat} {l : List Wri} {c5 q q' : Nat} {W W' : World} (h : WS w0 w A bs c g A2 rows g5 l c5 q W) (hR : Rd w0 W' A bs c g q') (hg : W.grownBy W' (some g)) (hgl : g < w.heap.size) (hne : ∀ b o, A2 = some ⟨b, o, none⟩ → b ≠ g) : WS w0 w A bs c g A2 rows g5 l c5 q' W' := by
  obtain ⟨h1, h2, h3, h4, h5⟩ := h
  exact ⟨own_gr h1 hg hgl, hR, gr_trans h3 hg, h4.gr hg (fun b o e h => hne b o e (by injection h)), h5⟩
theorem WS.far {w0 w : World} {A : Option Addr} {bs : List UInt8} {c g : Nat} {A2 : Option Addr} {rows : List Row} {g5 : Nat} {l : List Wri} {c5 q : Nat} {W : World} (h : WS w0 w A bs c g A2 rows g5 l c5 q W) {p : Addr} (hp : g5 ≠ p.block) (hp1 : w.heap.size ≤ p.block) (hp2 : ∀ b o, A2 = some ⟨b, o, none⟩ → b ≠ p.block) (hgl : g < w.heap.size) (u : Value) : WS w0 w A bs c g A2 rows g5 l c5 q (W.setCell p u) := by
  obtain ⟨h1, h2, h3, h4, h5⟩ := h
  have hw0 := h2.2.2.1
  have hg : W.grownBy (W.setCell p u) (some p.block) := ⟨rfl, rfl, rfl, by rw [World.size_setCell]; exact Nat.le_refl _, fun k _ hne => heap_setCell_other W p k u (fun e => hne (by rw [e]))⟩
  refine ⟨World.ownsRow.kept h1 hg (.inr (by simp [Value.ownBlock]; omega)), h2.farS (by omega) (by omega) u, gr_far h3 hp1 u, h4.gr hg (fun b o e h => hp2 b o e (by injection h)), h5⟩
def nOf : List Int := [1, 2, 1, 3, 0, 5]
theorem nOf_le : ∀ x ∈ nOf, 0 ≤ x ∧ x ≤ 5 := by decide
set_option maxRecDepth 100000 in
set_option maxHeartbeats 6000000 in
theorem l2Writes_any (w0 : World) (A : Option Addr) (bs : List UInt8) (c g p : Nat) (A2 : Option Addr) (rows : List Row) (c2 : Nat) (w : World) (hR : Rd w0 w A bs c g p) (hp : p < 800000) (hl : rows.length ≤ 1000) (hk : ∀ x ∈ rows, x.1.size ≤ maxLen) (hS : Sl encRow 2 w A2 rows) (hne2 : ∀ b o, A2 = some ⟨b, o, none⟩ → b ≠ g ∧ b < w.heap.size) :
    Calls Tryz.prog 23 #[.pointer (some ⟨g, 0, none⟩), .slice A2 rows.length c2] w fun e w' => ∃ (l : List Wri) (v : Value) (q : Nat), e = .returned v ∧ OwnW w' w.heap.size v l ∧ FitsW l ∧ l.length ≤ 6 ∧ q ≤ p + 100 ∧ Rd w0 w' A bs c g q ∧ w.grownBy w' (some g) := by
  obtain ⟨i0, hi, hz0, hz1, hz2⟩ := info_parts infoWri
  have HI := Lib.hid (⟨hi, hz0, hz1, hz2⟩ : _ ∧ _ ∧ _ ∧ _)
  clear hi hz0 hz1 hz2
  have hgl := hR.1.lt
  have HK := Lib.hid hk
  have HA2 := Lib.hid (fun b o e => (hne2 b o e).2)
  have hne : ∀ b o, A2 = some ⟨b, o, none⟩ → b ≠ g := fun b o e => (hne2 b o e).1
  have HNE := Lib.hid hne
  have hw1 := (Below.refl w.heap.size w).alloc (Nat.le_refl _) (.cells #[] 79)
  have HW0 := Lib.hid (show WS w0 w A bs c g A2 rows w.heap.size [] 0 p (w.alloc (.cells #[] 79)) from ⟨own_empty, hR.below hw1, gr_below hw1, hS.below hw1, ⟨Nat.zero_le _, fun x h => absurd h (by simp)⟩⟩)
  clear hw1 hR hk hne hne2 hS
  have hs1 : (w.alloc (.cells #[] 79)).heap.size = w.heap.size + 1 := by simp
  go_enter Tryz.func23, Tryz.ntmps23
  go_wp2_with fail
  generalize w.alloc (.cells #[] 79) = w1 at *
  have S1 := Sl.litN w1 3 nOf #[.int .i64 1, .int .i64 2, .int .i64 1, .int .i64 3, .int .i64 0, .int .i64 5] rfl
  have hwn := (Below.refl w1.heap.size w1).alloc (Nat.le_refl _) (.cells #[.int .i64 1, .int .i64 2, .int .i64 1, .int .i64 3, .int .i64 0, .int .i64 5] 3)
  have HW1 := Lib.hid (HW0.out.below hwn)
  rw [hs1] at S1
  clear hwn
  refine (num_any w0 A bs c g p (some ⟨w.heap.size + 1, 0, none⟩) nOf 6 _ HW1.out.2.1 (by omega) (by decide) S1 (by intro b o h; simp at h; omega)).mono ?_
  rintro e w2 ⟨m0, hm0, rfl, hR2, hG2⟩
  have hm5 := nOf_le m0 hm0
  have HW2 := Lib.hid (HW1.out.draw hR2 hG2 hgl HNE.out)
  clear S1 hm0 hR2 hG2 HW0 HW1
  obtain ⟨m, rfl⟩ : ∃ m : Nat, m0 = m := ⟨m0.toNat, by omega⟩
  go_wp2
  go_loopw [5, 6] (fun v i wr => ∃ (l : List Wri) (g5 c5 m q : Nat), v = .slice (some ⟨g5, 0, none⟩) l.length c5 ∧ i = .int .i64 m ∧ l.length + m ≤ 5 ∧ q + 12 * m ≤ p + 80 ∧ Hid (WS w0 w A bs c g A2 rows g5 l c5 q wr)) (fun _ i _ => (intOf i).toNat)
  case atStart => exact ⟨[], w.heap.size, 0, m, p + 1, rfl, rfl, by simp; omega, by omega, HW2.out⟩
  case round =>
    clear HW2 hm5
    obtain ⟨l, g5, c5, m, q, rfl, rfl, hlm, hqm, HW⟩ := hrel
    by_cases h0 : 0 < m
    · have hsz := HW.out.2.2.1.size
      go_wp2_with fail
      refine (l1Near_any w0 A bs c g q A2 rows c2 wr HW.out.2.1 (by omega) (by omega) HK.out HW.out.2.2.2.1 HNE.out).mono ?_
      rintro e w3 ⟨kk, q1, rfl, hkk, hq1, hR1, hG1⟩
      have HW3 := Lib.hid (HW.out.draw hR1 hG1 hgl HNE.out)
      have HKK := Lib.hid hkk
      clear HW hR1 hG1 hkk hsz
      go_wp2_with fail
      refine (l1Value_any w0 A bs c g q1 w3 HW3.out.2.1 (by omega)).mono ?_
      rintro e w4 ⟨n, q2, rfl, hq2, hR2, hG2⟩
      have HW4 := Lib.hid (HW3.out.draw hR2 hG2 hgl HNE.out)
      have hsz := HW4.out.2.2.1.size
      clear HW3 hR2 hG2
      have hwa := (Below.refl w4.heap.size w4).alloc (Nat.le_refl _) (.cells #[.string kk, .int .i64 n, .bool false] 79)
      have HW5 := Lib.hid (HW4.out.below hwa)
      have HB5 := Lib.hid (Blk.new w4 79 #[.string kk, .int .i64 n, .bool false])
      have hg5 := (HW4.out.1.lt g5 rfl).2
      have HA24 := Lib.hid (show ∀ b o, A2 = some ⟨b, o, none⟩ → b ≠ w4.heap.size from fun b o e => by have := HA2.out b o e; omega)
      clear hwa
      go_wp2_with fail
      generalize w4.alloc (.cells #[.string kk, .int .i64 n, .bool false] 79) = w5 at *
      refine (pick_any w0 A bs c g q2 4 w5 HW5.out.2.1 (by omega) (by omega)).mono ?_
      rintro e W5 ⟨j, hj, rfl, hR3, hG3⟩
      have HW6 := Lib.hid (HW5.out.draw hR3 hG3 hgl HNE.out)
      have HB6 := Lib.hid (HB5.out.grown hG3 (by simp; omega))
      clear HW5 HB5 hR3 hG3 HW4 hj
      generalize hgx : w4.heap.size = gx at *
      clear hgx
      go_upto_if 27 with fail
      go_cut [] (fun wx => ∃ (n' : Int) (gn : Bool), Hid (WS w0 w A bs c g A2 rows g5 l c5 (q2 + 1) wx) ∧ Hid (Blk wx gx 79 #[.string kk, .int .i64 n', .bool gn]))
      case first =>
        by_cases j0 : j = 0
        · subst j0
          have z0 := HB6.out.frozen 0
          have z1 := HB6.out.frozen 1
          have z2 := HB6.out.frozen 2
          have x0 : W5.cell? ⟨gx, 0, none⟩ = some (.string kk) := HB6.out.cell 0
          have x1 : W5.cell? ⟨gx, 1, none⟩ = some (.int .i64 n) := HB6.out.cell 1
          have x2 : W5.cell? ⟨gx, 2, none⟩ = some (.bool false) := HB6.out.cell 2
          have HB7 := Lib.hid (HB6.out.three (.string kk) (.int .i64 0) (.bool true))
          have HW7 := Lib.hid (WS.far (p := ⟨gx, 2, none⟩) (WS.far (p := ⟨gx, 1, none⟩) (WS.far (p := ⟨gx, 0, none⟩) HW6.out (by simp; omega) (by simp; omega) HA24.out hgl (.string kk)) (by simp; omega) (by simp; omega) HA24.out hgl (.int .i64 0)) (by simp; omega) (by simp; omega) HA24.out hgl (.bool true))
          clear HB6 HW6
          go_wp2
          go_meet
          exact ⟨_, _, HW7, HB7⟩
        · have j0' : ((j : Int) == 0) = false := by simp; omega
          have j1' : decide ((j : Int) = 0) = false := by simp; omega
          clear j0
          go_wp2
          go_meet
          exact ⟨_, _, HW6, HB6⟩
      case rest =>
        obtain ⟨n', gn, HW7, HB7⟩ := hcut
        clear HW6 HB6
        go_wp2
        go_loopw [8] (fun a wr => ∃ k : Nat, k ≤ l.length ∧ a = .int .i64 k ∧ Hid (WS w0 w A bs c g A2 rows g5 l c5 (q2 + 1) wr) ∧ Hid (Blk wr gx 79 #[.string kk, .int .i64 n', .bool gn])) (fun a _ => l.length - (intOf a).toNat)
        case atStart => exact ⟨0, by omega, rfl, HW7.out, HB7.out⟩
        case round =>
          clear HW7 HB7
          obtain ⟨k, hkl, rfl, HWk, HBk⟩ := hrel
          have hgk := (HWk.out.1.lt g5 rfl).2
          have hgx := HBk.out.lt
          have x0 : wr.cell? ⟨gx, 0, none⟩ = some (.string kk) := HBk.out.cell 0
          by_cases hlt : k < l.length
          case' pos =>
            obtain ⟨b, o, e, hbl, d0, _, _⟩ := Sl.at3 HWk.out.1.reads hlt
            simp at e
            obtain ⟨rfl, rfl⟩ := e
            rw [Nat.zero_add] at d0
            generalize l[k] = y at *
            have hki : (k : Int) < (l.length : Int) := by omega
            have hki0 : (0 : Int) ≤ (k : Int) := by omega
            cases hab : ltB y.1 kk
            case true =>
              have hge : Op.bytesLess y.1.toList kk.toList = true := hab
              clear hab
              go_wp2_with fail
              refine wp_region_below (by kernel_rfl) (by kernel_rfl) ?_
              iterate 14 (first | go_big_quiet_skip | (refine wpQuiet_step (fun K hK => ?_); go_simp; first | (apply Exists.intro; refine ⟨fun W hW => ?_, hK _ ?_⟩; (first | rfl | (have d0x := (hW.cell (p := ⟨g5, k * 3, none⟩) hbl).trans d0; have x0x := (hW.cell (p := ⟨gx, 0, none⟩) hgx).trans x0; go_simp; rfl)); clear hK K) | (refine hK _ ?_; clear hK K)))
              refine wpQuiet_nil ?_
              intro W hW
              have HWk2 := Lib.hid (HWk.out.below hW)
              have HBk2 := Lib.hid (HBk.out.kept hW)
              go_wp2
              go_roundw
              case rel => exact ⟨k + 1, by omega, by go_num, HWk2.out, HBk2.out⟩
              case measure => simp [intOf]; omega
            have hge : Op.bytesLess y.1.toList kk.toList = false := hab
            clear hab
            go_wp2_with fail
            refine wp_region_below (by kernel_rfl) (by kernel_rfl) ?_
            iterate 14 (first | go_big_quiet_skip | (refine wpQuiet_step (fun K hK => ?_); go_simp; first | (apply Exists.intro; refine ⟨fun W hW => ?_, hK _ ?_⟩; (first | rfl | (have d0x := (hW.cell (p := ⟨g5, k * 3, none⟩) hbl).trans d0; have x0x := (hW.cell (p := ⟨gx, 0, none⟩) hgx).trans x0; go_simp; rfl)); clear hK K) | (refine hK _ ?_; clear hK K)))
            refine wpQuiet_nil ?_
            intro W hW
            have d0 := (hW.cell (p := ⟨g5, k * 3, none⟩) hbl).trans d0
            have x0 := (hW.cell (p := ⟨gx, 0, none⟩) hgx).trans x0
            have hbl := Nat.lt_of_lt_of_le hbl hW.size
            have hgx := Nat.lt_of_lt_of_le hgx hW.size
            have HWk := Lib.hid (HWk.out.below hW)
            have HBk := Lib.hid (HBk.out.kept hW)
            clear hW
            generalize W = W6 at *
            cases heq : (y.1.toList == kk.toList)
            case true =>
              go_wp2_with fail
              refine wp_region_below (by kernel_rfl) (by kernel_rfl) ?_
              iterate 14 (first | go_big_quiet_skip | (refine wpQuiet_step (fun K hK => ?_); go_simp; first | (apply Exists.intro; refine ⟨fun W hW => ?_, hK _ ?_⟩; (first | rfl | (have d0x := (hW.cell (p := ⟨g5, k * 3, none⟩) hbl).trans d0; have x0x := (hW.cell (p := ⟨gx, 0, none⟩) hgx).trans x0; go_simp; rfl)); clear hK K) | (refine hK _ ?_; clear hK K)))
              refine wpQuiet_nil ?_
              intro W hW
              have HWk2 := Lib.hid (HWk.out.below hW)
              go_wp2
              go_roundw
              case rel => first | exact ⟨l, g5, c5, m - 1, q2 + 1, rfl, by go_num, by omega, by omega, HWk2.out⟩ | ((repeat apply Exists.intro); exact ⟨⟨l, g5, c5, m - 1, q2 + 1, rfl, by go_num, by omega, by omega, HWk2.out⟩, rfl⟩)
              case measure => simp [intOf]; omega
            go_wp2_with fail
            refine wp_region_below (by kernel_rfl) (by kernel_rfl) ?_
            iterate 14 (first | go_big_quiet_skip | (refine wpQuiet_step (fun K hK => ?_); go_simp; first | (apply Exists.intro; refine ⟨fun W hW => ?_, hK _ ?_⟩; (first | rfl | (have d0x := (hW.cell (p := ⟨g5, k * 3, none⟩) hbl).trans d0; have x0x := (hW.cell (p := ⟨gx, 0, none⟩) hgx).trans x0; go_simp; rfl)); clear hK K) | (refine hK _ ?_; clear hK K)))
            refine wpQuiet_nil ?_
            intro W hW
            have HWk := Lib.hid (HWk.out.below hW)
            have HBk := Lib.hid (HBk.out.kept hW)
            clear hW heq hge hki hki0 d0 x0 hbl hgx hgk
          case' neg =>
            have dk : decide ((k : Int) < (l.length : Int)) = false := decide_eq_false (by omega)
            go_wp2_with fail
            refine wp_region_below (by kernel_rfl) (by kernel_rfl) ?_
            iterate 14 (first | go_big_quiet_skip | (refine wpQuiet_step (fun K hK => ?_); go_simp; first | (apply Exists.intro; refine ⟨fun W hW => ?_, hK _ ?_⟩; (first | rfl | (have x0x := (hW.cell (p := ⟨gx, 0, none⟩) hgx).trans x0; go_simp; rfl)); clear hK K) | (refine hK _ ?_; clear hK K)))
            refine wpQuiet_nil ?_
            intro W hW
            have HWk := Lib.hid (HWk.out.below hW)
            have HBk := Lib.hid (HBk.out.kept hW)
            have x0 := (hW.cell (p := ⟨gx, 0, none⟩) hgx).trans x0
            have hgx := Nat.lt_of_lt_of_le hgx hW.size
            clear hW
            generalize W = W6 at *
            go_wp2_with fail
            refine wp_region_below (by kernel_rfl) (by kernel_rfl) ?_
            iterate 14 (first | go_big_quiet_skip | (refine wpQuiet_step (fun K hK => ?_); go_simp; first | (apply Exists.intro; refine ⟨fun W hW => ?_, hK _ ?_⟩; (first | rfl | (have x0x := (hW.cell (p := ⟨gx, 0, none⟩) hgx).trans x0; go_simp; rfl)); clear hK K) | (refine hK _ ?_; clear hK K)))
            refine wpQuiet_nil ?_
            intro W hW
            have HWk := Lib.hid (HWk.out.below hW)
            have HBk := Lib.hid (HBk.out.kept hW)
            clear hW x0 hgx hgk
          all_goals
            obtain ⟨Ao, co, eo, hlc, hcm, hSo⟩ := HWk.out.1.sl
            injection eo with eo1 eo2 eo3
            subst eo3
            clear eo1 eo2 hSo Ao
            have hbe := (Below.refl W.heap.size W).alloc (Nat.le_refl _) (.cells #[] 79)
            have HBE := Lib.hid hbe
            have HO0 := Lib.hid (own_empty (w := W))
            obtain ⟨P, hP⟩ : ∃ P, P = l.take k := ⟨_, rfl⟩
            obtain ⟨D, hD⟩ : ∃ D, D = l.drop k := ⟨_, rfl⟩
            have hPl : P.length = k := by rw [hP, List.length_take]; omega
            have hDl : D.length = l.length - k := by rw [hD, List.length_drop]
            have HPF := Lib.hid (show ∀ y ∈ P, y.1.size ≤ maxLen from fun y hy => HWk.out.2.2.2.2.2 y (by rw [hP] at hy; exact List.mem_of_mem_take hy))
            have HDF := Lib.hid (show ∀ y ∈ D, y.1.size ≤ maxLen from fun y hy => HWk.out.2.2.2.2.2 y (by rw [hD] at hy; exact List.mem_of_mem_drop hy))
            have HPS := Lib.hid (show Sl encWri 3 W (some ⟨g5, 0, none⟩) P from by rw [hP]; exact HWk.out.1.reads.take k)
            have HSD : Hid (Sl encWri 3 W (some ⟨g5, k * 3, none⟩) D) := Lib.hid (by have := Sl.drop3 HWk.out.1.reads k; rw [Nat.zero_add] at this; rw [hD]; exact this)
            have HTK := Lib.hid hPl.symm
            have HCD := Lib.hid hDl.symm
            have HPD := Lib.hid (⟨hPl, hDl⟩ : _ ∧ _)
            have HDS := Lib.hid (show D.length ≤ 5 by omega)
            have HPS5 := Lib.hid (show P.length ≤ 5 by omega)
            have H63 := Lib.hid (show 0 + D.length ≤ maxLen by unfold maxLen; omega)
            have HBY := Lib.hid (show (0 + D.length) * 32 ≤ 140737488355328 by omega)
            have HBS := Lib.hid (show W.heap.size ≤ (W.alloc (.cells #[] 79)).heap.size by simp)
            have a1 : (k : Int) ≤ (l.length : Int) := by omega
            have a2 : k ≤ c5 := by omega
            have a3 : (l.length : Int) ≤ (c5 : Int) := by omega
            clear hbe hP hD hPl hDl
            by_cases hcp : c5 = k
            case' pos =>
              first
                | (exfalso; omega)
                | (have HCD0 := Lib.hid (show 0 = D.length by have := HPD.out; omega)
                   subst hcp
                   have HS0 := Lib.hid (show Sl encWri 3 (W.alloc (.cells #[] 79)) (some ⟨g5, 0, none⟩) D from Sl.nilW (by have := HPD.out; omega))
                   go_wp2_with (at_builtin; refine wpList_append_slM (enc := encWri) rfl (.tmp 61) (.tmp 64) 37 rfl W.heap.size 79 i0 _ 3 32 Tryz.underlying37 HI.out.1 HI.out.2.1 HI.out.2.2.1 HI.out.2.2.2 rfl (by decide) (.slice (some ⟨W.heap.size, 0, none⟩) 0 0) 0 [] rfl HO0.out encWri_len (some ⟨g5, 0, none⟩) D 0 0 HCD0.out (by first | rfl | simp [Act.eval]) HS0.out (encWri_one _) H63.out HBY.out HBS.out ?_; intro vt w1 hownt hgrt _; have ht : OwnW w1 W.heap.size vt D := ownW_of hownt; have hbt := below_own HBE.out hgrt HBS.out (fun j hj => by simp [Value.ownBlock] at hj; omega); obtain ⟨At, ct, rfl, _, _, hSt⟩ := ht.sl; have HT := Lib.hid ht; have HW1 := Lib.hid (HWk.out.below hbt); have HPS1 := Lib.hid (HPS.out.below hbt); have HB1 := HBk.out.kept hbt; have s0 : w1.cell? ⟨gx, 0, none⟩ = some (.string kk) := HB1.cell 0; have s1 : w1.cell? ⟨gx, 1, none⟩ = some (.int .i64 n') := HB1.cell 1; have s2 : w1.cell? ⟨gx, 2, none⟩ = some (.bool gn) := HB1.cell 2; have hgx1 := HB1.lt; clear hSt ht hbt hownt hgrt HB1))
            case' neg =>
              have hcp2 : ¬ k = c5 := fun e => hcp e.symm
              have HS0 := Lib.hid (show Sl encWri 3 (W.alloc (.cells #[] 79)) (some ⟨g5, k * 3, none⟩) D from HSD.out.below HBE.out)
              go_wp2_with (at_builtin; refine wpList_append_slM (enc := encWri) rfl (.tmp 61) (.tmp 64) 37 rfl W.heap.size 79 i0 _ 3 32 Tryz.underlying37 HI.out.1 HI.out.2.1 HI.out.2.2.1 HI.out.2.2.2 rfl (by decide) (.slice (some ⟨W.heap.size, 0, none⟩) 0 0) 0 [] rfl HO0.out encWri_len (some ⟨g5, k * 3, none⟩) D (l.length - k) (c5 - k) HCD.out (by first | rfl | simp [Act.eval, hcp, hcp2]) HS0.out (encWri_one _) H63.out HBY.out HBS.out ?_; intro vt w1 hownt hgrt _; have ht : OwnW w1 W.heap.size vt D := ownW_of hownt; have hbt := below_own HBE.out hgrt HBS.out (fun j hj => by simp [Value.ownBlock] at hj; omega); obtain ⟨At, ct, rfl, _, _, hSt⟩ := ht.sl; have HT := Lib.hid ht; have HW1 := Lib.hid (HWk.out.below hbt); have HPS1 := Lib.hid (HPS.out.below hbt); have HB1 := HBk.out.kept hbt; have s0 : w1.cell? ⟨gx, 0, none⟩ = some (.string kk) := HB1.cell 0; have s1 : w1.cell? ⟨gx, 1, none⟩ = some (.int .i64 n') := HB1.cell 1; have s2 : w1.cell? ⟨gx, 2, none⟩ = some (.bool gn) := HB1.cell 2; have hgx1 := HB1.lt; clear hSt ht hbt hownt hgrt HB1)
            all_goals
              have hb1s : Below w1.heap.size w1 (w1.alloc (.cells #[] 79)) := (Below.refl w1.heap.size w1).alloc (Nat.le_refl _) _
              have HBA := Lib.hid (show Below w1.heap.size w1 (w1.alloc (.cells #[] 79)).drew from hb1s.drew)
              have HBB := Lib.hid (show Below w1.heap.size w1 ((w1.alloc (.cells #[] 79)).alloc (.cells #[.string kk, .int .i64 n', .bool gn] 79)).drew from (hb1s.alloc (by simp) _).drew)
              have HBC := Lib.hid (show Below w1.heap.size w1 ((w1.alloc (.cells #[.string kk, .int .i64 n', .bool gn] 79)).alloc (.cells #[] 79)).drew from (((Below.refl w1.heap.size w1).alloc (Nat.le_refl _) _).alloc (by simp) _).drew)
              have HOA := Lib.hid (show OwnW (w1.alloc (.cells #[] 79)).drew w1.heap.size (.slice (some ⟨w1.heap.size, 0, none⟩) 0 0) [] from own_empty)
              have HOB := Lib.hid (show OwnW ((w1.alloc (.cells #[] 79)).alloc (.cells #[.string kk, .int .i64 n', .bool gn] 79)).drew w1.heap.size (.slice (some ⟨w1.heap.size, 0, none⟩) 0 0) [] from (own_empty (w := w1)).below ((Below.refl _ _).alloc (Nat.le_refl _) _).drew)
              have HOC := Lib.hid (show OwnW ((w1.alloc (.cells #[.string kk, .int .i64 n', .bool gn] 79)).alloc (.cells #[] 79)).drew w1.heap.size (.slice (some ⟨w1.heap.size + 1, 0, none⟩) 0 0) [] from by
                have h := own_empty (w := w1.alloc (.cells #[.string kk, .int .i64 n', .bool gn] 79))
                rw [World.size_alloc] at h
                exact h.leB (by omega))
              have HXB := Lib.hid (show Sl encWri 3 ((w1.alloc (.cells #[] 79)).alloc (.cells #[.string kk, .int .i64 n', .bool gn] 79)).drew (some ⟨w1.heap.size + 1, 0, none⟩) [(kk, n', gn)] from by
                have h := slw_one (x := (kk, n', gn)) (Blk.new (w1.alloc (.cells #[] 79)) 79 #[.string kk, .int .i64 n', .bool gn])
                rw [World.size_alloc] at h
                exact h)
              have HXC := Lib.hid (show Sl encWri 3 ((w1.alloc (.cells #[.string kk, .int .i64 n', .bool gn] 79)).alloc (.cells #[] 79)).drew (some ⟨w1.heap.size, 0, none⟩) [(kk, n', gn)] from slw_one (x := (kk, n', gn)) ((Blk.new w1 79 #[.string kk, .int .i64 n', .bool gn]).alloc _))
              have G63 := Lib.hid (show 0 + P.length ≤ maxLen by have := HPS5.out; unfold maxLen; omega)
              have GBY := Lib.hid (show (0 + P.length) * 32 ≤ 140737488355328 by have := HPS5.out; omega)
              clear hb1s
              go_cut [10] (fun s wx => ∃ (g6 c6 : Nat) (N : List Wri), s = .slice (some ⟨g6, 0, none⟩) N.length c6 ∧ Hid (OwnW wx w1.heap.size (.slice (some ⟨g6, 0, none⟩) N.length c6) N) ∧ Hid (FitsW N) ∧ Hid (N.length = l.length + 1) ∧ Hid (Below w1.heap.size w1 wx))
              case first =>
                go_region_law (first
                  | (refine step_append_slB (enc := encWri) rfl (.tmp 73) (.tmp 74) 37 rfl w1.heap.size 79 i0 (.agg #[.string ⟨#[]⟩, .int .i64 0, .bool false]) 3 32 Tryz.underlying37 HI.out.1 HI.out.2.1 HI.out.2.2.1 HI.out.2.2.2 rfl (by decide) (.slice A4 N1.length c4) N1.length (N1.flatMap encWri) (by simp [Act.eval]) HO4.out encWri_len At D D.length ct rfl (by simp [Act.eval]) HST4.out (encWri_one _) L63.out LBY.out LBS.out ?_
                     intro v5 w5 hown5 hgr5 _
                     have hb5 := below_own HB4.out hgr5 LBS.out (fun j hj => (HO4.out.lt j hj).1)
                     obtain ⟨N, hN, ho5⟩ : ∃ N, N = N1 ++ D ∧ OwnW w5 w1.heap.size v5 N := ⟨_, rfl, ownW_app hown5⟩
                     have HNl := Lib.hid (show N.length = l.length + 1 by rw [hN, List.length_append, HN1.out.1]; have := HPD.out; omega)
                     have hNl : N.length ≤ 5 := by have := HNl.out; omega
                     have hN0 : 0 < N.length := by have := HNl.out; omega
                     have HNF := Lib.hid (show FitsW N from ⟨by unfold maxLen; omega, fun y hy => by
                       rw [hN] at hy
                       rcases List.mem_append.1 hy with hy | hy
                       · exact HN1.out.2 y hy
                       · exact HDF.out y hy⟩)
                     obtain ⟨g6, c6, rfl⟩ := ownW_some ho5 hN0
                     have HO5 := Lib.hid ho5
                     have HB5 := Lib.hid hb5
                     clear hown5 hgr5 hb5 hN ho5)
                  | (refine step_append_slB (enc := encWri) rfl (.tmp 70) (.tmp 72) 37 rfl w1.heap.size 79 i0 (.agg #[.string ⟨#[]⟩, .int .i64 0, .bool false]) 3 32 Tryz.underlying37 HI.out.1 HI.out.2.1 HI.out.2.2.1 HI.out.2.2.2 rfl (by decide) (.slice A3 P.length c3) P.length (P.flatMap encWri) (by simp [Act.eval]) HO3.out encWri_len _ [((kk, n', gn) : Wri)] 1 1 rfl (by simp [Act.eval]) HX3.out (encWri_one _) K63.out KBY.out KBS.out ?_
                     intro v4 w4 hown4 hgr4 _
                     have hb4 := below_own HB3.out hgr4 KBS.out (fun j hj => (HO3.out.lt j hj).1)
                     obtain ⟨N1, hN1, ho4⟩ : ∃ N1, N1 = P ++ [((kk, n', gn) : Wri)] ∧ OwnW w4 w1.heap.size v4 N1 := ⟨_, rfl, ownW_app hown4⟩
                     have HN1 := Lib.hid (show N1.length = P.length + 1 ∧ ∀ y ∈ N1, y.1.size ≤ maxLen from ⟨by rw [hN1, List.length_append]; rfl, fun y hy => by
                       rw [hN1] at hy
                       rcases List.mem_append.1 hy with hy | hy
                       · exact HPF.out y hy
                       · simp at hy; subst hy; exact HKK.out⟩)
                     obtain ⟨A4, c4, rfl, _, _, hS4⟩ := ho4.sl
                     have HO4 := Lib.hid ho4
                     have HB4 := Lib.hid hb4
                     have HST4 := Lib.hid (show Sl encWri 3 w4 At D from (HT.out.below hb4).reads)
                     have L63 := Lib.hid (show N1.length + D.length ≤ maxLen by have := HN1.out.1; have := HPS5.out; have := HDS.out; unfold maxLen; omega)
                     have LBY := Lib.hid (show (N1.length + D.length) * 32 ≤ 140737488355328 by have := HN1.out.1; have := HPS5.out; have := HDS.out; omega)
                     have LBS := Lib.hid hb4.size
                     clear hown4 hgr4 hb4 hN1 ho4 hS4)
                  | (refine step_append_slB (enc := encWri) rfl (.tmp 66) (.tmp 69) 37 rfl w1.heap.size 79 i0 (.agg #[.string ⟨#[]⟩, .int .i64 0, .bool false]) 3 32 Tryz.underlying37 HI.out.1 HI.out.2.1 HI.out.2.2.1 HI.out.2.2.2 rfl (by decide) (.slice (some ⟨w1.heap.size, 0, none⟩) 0 0) 0 [] (by simp [Act.eval]) HOA.out encWri_len (some ⟨g5, 0, none⟩) P _ c5 HTK.out (by simp [Act.eval]) (HPS1.out.below HBA.out) (encWri_one _) G63.out GBY.out HBA.out.size ?_
                     intro v3 w3 hown3 hgr3 _
                     have hb3 := below_own HBA.out hgr3 HBA.out.size (fun j hj => (HOA.out.lt j hj).1)
                     have ho3 := ownW_of hown3
                     obtain ⟨A3, c3, rfl, _, _, hS3⟩ := ho3.sl
                     have hb3n := hb3.alloc hb3.size (.cells #[.string kk, .int .i64 n', .bool gn] 79)
                     have HO3 := Lib.hid (ho3.below ((Below.refl w3.heap.size w3).alloc (Nat.le_refl _) (.cells #[.string kk, .int .i64 n', .bool gn] 79)))
                     have HX3 := Lib.hid (slw_one (x := (kk, n', gn)) (Blk.new w3 79 #[.string kk, .int .i64 n', .bool gn]))
                     have HB3 := Lib.hid hb3n
                     have s0 : w3.cell? ⟨gx, 0, none⟩ = some (.string kk) := (hb3.cell (p := ⟨gx, 0, none⟩) hgx1).trans s0
                     have s1 : w3.cell? ⟨gx, 1, none⟩ = some (.int .i64 n') := (hb3.cell (p := ⟨gx, 1, none⟩) hgx1).trans s1
                     have s2 : w3.cell? ⟨gx, 2, none⟩ = some (.bool gn) := (hb3.cell (p := ⟨gx, 2, none⟩) hgx1).trans s2
                     have K63 := Lib.hid (show P.length + [((kk, n', gn) : Wri)].length ≤ maxLen by have := HPS5.out; unfold maxLen; simp; omega)
                     have KBY := Lib.hid (show (P.length + [((kk, n', gn) : Wri)].length) * 32 ≤ 140737488355328 by have := HPS5.out; simp; omega)
                     have KBS := Lib.hid HB3.out.size
                     clear hown3 hgr3 hb3 ho3 hS3 hb3n)
                  | (refine step_append_slB (enc := encWri) rfl (.tmp 66) (.tmp 69) 37 rfl w1.heap.size 79 i0 (.agg #[.string ⟨#[]⟩, .int .i64 0, .bool false]) 3 32 Tryz.underlying37 HI.out.1 HI.out.2.1 HI.out.2.2.1 HI.out.2.2.2 rfl (by decide) (.slice (some ⟨w1.heap.size, 0, none⟩) 0 0) 0 [] (by simp [Act.eval]) HOB.out encWri_len (some ⟨g5, 0, none⟩) P _ c5 HTK.out (by simp [Act.eval]) (HPS1.out.below HBB.out) (encWri_one _) G63.out GBY.out HBB.out.size ?_
                     intro v3 w3 hown3 hgr3 _
                     have hb3 := below_own HBB.out hgr3 HBB.out.size (fun j hj => (HOB.out.lt j hj).1)
                     have ho3 := ownW_of hown3
                     obtain ⟨A3, c3, rfl, _, _, hS3⟩ := ho3.sl
                     have HO3 := Lib.hid ho3
                     have HX3 := Lib.hid (HXB.out.gr hgr3 (by intro b o e; simp at e; simp [Value.ownBlock]; omega))
                     have HB3 := Lib.hid hb3
                     have K63 := Lib.hid (show P.length + [((kk, n', gn) : Wri)].length ≤ maxLen by have := HPS5.out; unfold maxLen; simp; omega)
                     have KBY := Lib.hid (show (P.length + [((kk, n', gn) : Wri)].length) * 32 ≤ 140737488355328 by have := HPS5.out; simp; omega)
                     have KBS := Lib.hid HB3.out.size
                     clear hown3 hgr3 hb3 ho3 hS3)
                  | (refine step_append_slB (enc := encWri) rfl (.tmp 66) (.tmp 69) 37 rfl w1.heap.size 79 i0 (.agg #[.string ⟨#[]⟩, .int .i64 0, .bool false]) 3 32 Tryz.underlying37 HI.out.1 HI.out.2.1 HI.out.2.2.1 HI.out.2.2.2 rfl (by decide) (.slice (some ⟨w1.heap.size + 1, 0, none⟩) 0 0) 0 [] (by simp [Act.eval]) HOC.out encWri_len (some ⟨g5, 0, none⟩) P _ c5 HTK.out (by simp [Act.eval]) (HPS1.out.below HBC.out) (encWri_one _) G63.out GBY.out HBC.out.size ?_
                     intro v3 w3 hown3 hgr3 _
                     have hb3 := below_own HBC.out hgr3 HBC.out.size (fun j hj => (HOC.out.lt j hj).1)
                     have ho3 := ownW_of hown3
                     obtain ⟨A3, c3, rfl, _, _, hS3⟩ := ho3.sl
                     have HO3 := Lib.hid ho3
                     have HX3 := Lib.hid (HXC.out.gr hgr3 (by intro b o e; simp at e; simp [Value.ownBlock]; omega))
                     have HB3 := Lib.hid hb3
                     have K63 := Lib.hid (show P.length + [((kk, n', gn) : Wri)].length ≤ maxLen by have := HPS5.out; unfold maxLen; simp; omega)
                     have KBY := Lib.hid (show (P.length + [((kk, n', gn) : Wri)].length) * 32 ≤ 140737488355328 by have := HPS5.out; simp; omega)
                     have KBS := Lib.hid HB3.out.size
                     clear hown3 hgr3 hb3 ho3 hS3))
                all_goals (try go_wp2_with fail)
                all_goals go_meet
                all_goals exact ⟨g6, c6, N, rfl, HO5, HNF, HNl, HB5⟩
              case rest =>
                obtain ⟨g6, c6, N, rfl, HO5, HNF, HNl, HB5⟩ := hcut
                have hNl : N.length ≤ 5 := by have := HNl.out; omega
                have hN0 : 0 < N.length := by have := HNl.out; omega
                have HW5 := Lib.hid (HW1.out.below HB5.out)
                have HWO := Lib.hid (specWritesOk_any (some ⟨g6, 0, none⟩) N c6 wc HNF.out (by omega) HO5.out.reads)
                have hw15 := HB5.out.size
                have hww := HW1.out.2.2.1.size
                clear HPS HSD HOA HOB HOC HXB HXC HBA HBB HBC s0 s1 s2
                go_wp2_with fail
                refine HWO.out.mono ?_
                rintro e w6 ⟨rfl, hb6⟩
                have HW6 := Lib.hid (HW5.out.below hb6)
                have HO6 := Lib.hid (HO5.out.below hb6)
                clear HWO HW5 HO5 hb6
                cases hok : wrsB 6 N
                case true =>
                  clear hok
                  go_wp2
                  go_roundw
                  case rel => first | exact ⟨N, g6, c6, m - 1, q2 + 1, rfl, by go_num, by have := HNl.out; omega, by omega, HO6.out.leB hww, HW6.out.2.1, HW6.out.2.2.1, HW6.out.2.2.2.1, HNF.out⟩ | ((repeat apply Exists.intro); exact ⟨⟨N, g6, c6, m - 1, q2 + 1, rfl, by go_num, by have := HNl.out; omega, by omega, HO6.out.leB hww, HW6.out.2.1, HW6.out.2.2.1, HW6.out.2.2.2.1, HNF.out⟩, rfl⟩)
                  case measure => simp [intOf]; omega
                clear hok
                go_wp2_with fail
                refine (pick_any w0 A bs c g (q2 + 1) 20 w6 HW6.out.2.1 (by omega) (by omega)).mono ?_
                rintro e w7 ⟨j7, hj7, rfl, hR7, hG7⟩
                have HW7 := Lib.hid (HW6.out.draw hR7 hG7 hgl HNE.out)
                have HO7 := Lib.hid (own_gr HO6.out hG7 (by omega))
                clear HW6 HO6 hR7 hG7
                by_cases j70 : j7 = 0
                case pos =>
                  subst j70
                  go_wp2
                  go_roundw
                  case rel => first | exact ⟨N, g6, c6, m - 1, q2 + 1 + 1, rfl, by go_num, by have := HNl.out; omega, by omega, OwnW.leB HO7.out hww, HW7.out.2.1, HW7.out.2.2.1, HW7.out.2.2.2.1, HNF.out⟩ | ((repeat apply Exists.intro); exact ⟨⟨N, g6, c6, m - 1, q2 + 1 + 1, rfl, by go_num, by have := HNl.out; omega, by omega, OwnW.leB HO7.out hww, HW7.out.2.1, HW7.out.2.2.1, HW7.out.2.2.2.1, HNF.out⟩, rfl⟩)
                  case measure => simp [intOf]; omega
                have j70' : ((j7 : Int) == 0) = false := by simp; omega
                have j71' : decide ((j7 : Int) = 0) = false := by simp; omega
                clear j70
                go_wp2
                go_roundw
                case rel => first | exact ⟨l, g5, c5, m - 1, q2 + 1 + 1, rfl, by go_num, by omega, by omega, HW7.out⟩ | ((repeat apply Exists.intro); exact ⟨⟨l, g5, c5, m - 1, q2 + 1 + 1, rfl, by go_num, by omega, by omega, HW7.out⟩, rfl⟩)
                case measure => simp [intOf]; omega
    · obtain rfl : m = 0 := by omega
      by_cases hl0 : l.length = 0
      case pos =>
        have d0 : decide ((0 : Int) < (l.length : Int)) = false := decide_eq_false (by omega)
        have d0n : decide (0 < l.length) = false := decide_eq_false (by omega)
        have d1n : ¬ (0 < l.length) := by omega
        clear hl0
        go_wp2
        go_ret
        exact ⟨l, _, q, rfl, HW.out.1, HW.out.2.2.2.2, by omega, by omega, HW.out.2.1, HW.out.2.2.1⟩
      have d0 : decide ((0 : Int) < (l.length : Int)) = true := decide_eq_true (by omega)
      have d0n : decide (0 < l.length) = true := decide_eq_true (by omega)
      have hln : 0 < l.length := by omega
      clear hl0
      go_wp2_with fail
      refine (pick_any w0 A bs c g q 30 wr HW.out.2.1 (by omega) (by omega)).mono ?_
      rintro e w3 ⟨j, hj, rfl, hR3, hG3⟩
      have HW3 := Lib.hid (HW.out.draw hR3 hG3 hgl HNE.out)
      clear HW hR3 hG3
      by_cases j0 : j = 0
      case neg =>
        have j0' : ((j : Int) == 0) = false := by simp; omega
        have j1' : decide ((j : Int) = 0) = false := by simp; omega
        clear j0
        go_wp2
        go_ret
        exact ⟨l, _, q + 1, rfl, HW3.out.1, HW3.out.2.2.2.2, by omega, by omega, HW3.out.2.1, HW3.out.2.2.1⟩
      subst j0
      obtain ⟨b, o, e, hbl, e0, e1, e2⟩ := Sl.at3 HW3.out.1.reads (show 0 < l.length by omega)
      simp at e
      obtain ⟨rfl, rfl⟩ := e
      simp only [Nat.zero_mul, Nat.add_zero, Nat.zero_add] at e0 e1 e2
      have hy := HW3.out.2.2.2.2.2 l[0] (List.getElem_mem _)
      generalize l[0] = y at *
      obtain ⟨yk, yn, yg⟩ := y
      simp only at e0 e1 e2 hy
      have hbn := (Below.refl w3.heap.size w3).alloc (Nat.le_refl _) (.cells #[.string yk, .int .i64 yn, .bool yg] 79)
      have HW4 := Lib.hid (HW3.out.below hbn)
      have HX := Lib.hid (slw_one (x := (yk, yn, yg)) (Blk.new w3 79 #[.string yk, .int .i64 yn, .bool yg]))
      have H63 := Lib.hid (show l.length + [((yk, yn, yg) : Wri)].length ≤ maxLen by unfold maxLen; simp; omega)
      have HBY := Lib.hid (show (l.length + [((yk, yn, yg) : Wri)].length) * 32 ≤ 140737488355328 by simp; omega)
      have HBS := Lib.hid HW4.out.2.2.1.size
      have hli : (0 : Int) < (l.length : Int) := by omega
      clear hbn
      go_wp2_with (at_builtin; refine wpList_append_slM (enc := encWri) rfl (.tmp 92) (.tmp 96) 37 rfl w.heap.size 79 i0 _ 3 32 Tryz.underlying37 HI.out.1 HI.out.2.1 HI.out.2.2.1 HI.out.2.2.2 rfl (by decide) (.slice (some ⟨g5, 0, none⟩) l.length c5) l.length (l.flatMap encWri) rfl HW4.out.1 encWri_len (some ⟨w3.heap.size, 0, none⟩) [((yk, yn, yg) : Wri)] 1 1 rfl rfl HX.out (encWri_one _) H63.out HBY.out HBS.out ?_; intro vt w5 hownt hgrt _; have HG5 := Lib.hid hgrt; obtain ⟨N, hN, ht⟩ : ∃ N, N = l ++ [((yk, yn, yg) : Wri)] ∧ OwnW w5 w.heap.size vt N := ⟨_, rfl, ownW_app hownt⟩; have HN := Lib.hid hN; obtain ⟨At, ct, rfl, _, _, hSt⟩ := ht.sl; have HT := Lib.hid ht; clear hSt ht hownt hgrt hN)
      go_ret
      exact ⟨N, _, q + 1, rfl, HT.out, ⟨by rw [HN.out, List.length_append]; unfold maxLen; simp; omega, fun y hy2 => by
        rw [HN.out] at hy2
        rcases List.mem_append.1 hy2 with h | h
        · exact HW4.out.2.2.2.2.2 y h
        · simp at h; subst h; exact hy⟩, by rw [HN.out]; simp; omega, by omega, HW4.out.2.1.own HG5.out (fun j hj => by have := (HW4.out.1.lt j hj).1; omega), gr_own HW4.out.2.2.1 HG5.out (fun j hj => (HW4.out.1.lt j hj).1)⟩
end Go.Proofs.YtfmhhckkpenldaaGreatDoor
/- The reference's l6Put: one thing more in its place (bounds). -/
namespace Go.Proofs.YtfmhhckkpenldaaGreatDoor
open Go.RowKit
theorem infoNm : (Tryz.prog.info? 93).map (fun i => (i.zero, i.size, i.bytes)) = some (some (.agg #[.string ⟨#[]⟩, .int .i64 0, .string ⟨#[]⟩, .string ⟨#[]⟩, .int .i64 0]), 5, 64) := by kernel_rfl
def OwnN (w : World) (B : Nat) (v : Value) (l : List Nm) : Prop := w.ownsRow B 93 5 v l.length (l.flatMap encNm)
theorem OwnN.sl {w : World} {B : Nat} {v : Value} {l : List Nm} (h : OwnN w B v l) : ∃ A c, v = .slice A l.length c ∧ l.length ≤ c ∧ c ≤ maxLen ∧ Sl encNm 5 w A l := Sl.of_own encNm_len h
theorem OwnN.leB {w : World} {B B2 : Nat} {v : Value} {l : List Nm} (h : OwnN w B v l) (hb : B2 ≤ B) : OwnN w B2 v l := Go.Joins.ownsRow_le h hb
def AllN (L : List Nm) : Prop := ∀ y ∈ L, (y.1.size ≤ 10 ∧ y.2.2.1.size ≤ maxLen ∧ y.2.2.2.1.size ≤ maxLen)
/-- what stands while the new list is made -/
def PSN (w : World) (x : Nm) (v : Value) (L : List Nm) (W : World) : Prop :=
  OwnN W (w.heap.size + 1) v L ∧ Blk W w.heap.size 93 (#[.string x.1, .int .i64 x.2.1, .string x.2.2.1, .string x.2.2.2.1, .int .i64 x.2.2.2.2]) ∧ Below w.heap.size w W ∧ (∀ y ∈ L, (y.1.size ≤ 10 ∧ y.2.2.1.size ≤ maxLen ∧ y.2.2.2.1.size ≤ maxLen)) ∧ w.heap.size + 1 < W.heap.size
theorem PSN.below {w W W' : World} {x : Nm} {v : Value} {L : List Nm} (h : PSN w x v L W) (hb : Below W.heap.size W W') : PSN w x v L W' :=
  ⟨own_kept h.1 hb, h.2.1.kept hb, bthen h.2.2.1 hb, h.2.2.2.1, Nat.lt_of_lt_of_le h.2.2.2.2 hb.size⟩
theorem PSN.app {w W W' : World} {x : Nm} {v v' : Value} {L : List Nm} {z : Nm} (h : PSN w x v L W) (hz : (z.1.size ≤ 10 ∧ z.2.2.1.size ≤ maxLen ∧ z.2.2.2.1.size ≤ maxLen)) (cs : Array Value)
    (ho : W'.ownsRow (w.heap.size + 1) 93 5 v' (L.length + 1) (L.flatMap encNm ++ encNm z)) (hg : (W.alloc (.cells cs 93)).grownBy W' v.ownBlock) : PSN w x v' (L ++ [z]) W' := by
  obtain ⟨h1, h2, h3, h5, h6⟩ := h
  have hb := (Below.refl W.heap.size W).alloc (Nat.le_refl _) (.cells cs 93)
  have hlt := h1.lt
  have hsz : W.heap.size ≤ (W.alloc (.cells cs 93)).heap.size := hb.size
  have hbw : Below w.heap.size w W' := below_own (bthen h3 hb) hg (by omega) (fun j hj => by have := (hlt j hj).1; omega)
  refine ⟨?_, (h2.kept hb).grown hg (fun e => by have := (hlt _ e.symm).1; omega), hbw, ?_, by have := hg.size; omega⟩
  · unfold OwnN
    rw [List.length_append, List.flatMap_append]
    simpa using ho
  · intro y hy
    rcases List.mem_append.1 hy with hy | hy
    · exact h5 y hy
    · simp at hy; subst hy; exact hz
theorem PSN.cells {w W : World} {x : Nm} {v : Value} {L l : List Nm} {b o k : Nat} {y : Nm} (h : PSN w x v L W) (hS : Sl encNm 5 w (some ⟨b, o, none⟩) l) (hy : l[k]? = some y) :
    W.cell? ⟨b, o + k * 5, none⟩ = some (.string y.1) ∧ W.cell? ⟨b, o + k * 5 + 1, none⟩ = some (.int .i64 y.2.1) ∧ W.cell? ⟨b, o + k * 5 + 2, none⟩ = some (.string y.2.2.1) ∧ W.cell? ⟨b, o + k * 5 + 3, none⟩ = some (.string y.2.2.2.1) ∧ W.cell? ⟨b, o + k * 5 + 4, none⟩ = some (.int .i64 y.2.2.2.2) ∧ b < W.heap.size ∧ w.heap.size < W.heap.size ∧ W.cell? ⟨w.heap.size, 0, none⟩ = some (.string x.1) := by
  obtain ⟨b', o', e, hb, hc⟩ := (hS.below h.2.2.1) (by have := (List.getElem?_eq_some_iff.1 hy).1; omega)
  injection e with e
  injection e with e1 e2
  subst e1; subst e2
  exact ⟨hc k 0 y hy (by decide), hc k 1 y hy (by decide), hc k 2 y hy (by decide), hc k 3 y hy (by decide), hc k 4 y hy (by decide), hb, h.2.1.lt, h.2.1.cell 0⟩
set_option maxRecDepth 100000 in
set_option maxHeartbeats 8000000 in
theorem l6Put_any (A : Option Addr) (l : List Nm) (c : Nat) (x : Nm) (w : World) (hn : l.length ≤ 400) (hf : ∀ y ∈ l, (y.1.size ≤ 10 ∧ y.2.2.1.size ≤ maxLen ∧ y.2.2.2.1.size ≤ maxLen)) (hx : (x.1.size ≤ 10 ∧ x.2.2.1.size ≤ maxLen ∧ x.2.2.2.1.size ≤ maxLen)) (hS : Sl encNm 5 w A l) :
    Calls Tryz.prog 79 #[.slice A l.length c, .agg (#[.string x.1, .int .i64 x.2.1, .string x.2.2.1, .string x.2.2.2.1, .int .i64 x.2.2.2.2])] w fun e w' => ∃ A' c' L, e = .returned (.slice A' L.length c') ∧ OwnN w' w.heap.size (.slice A' L.length c') L ∧ L.length ≤ l.length + 1 ∧ AllN L ∧ Below w.heap.size w w' := by
  obtain ⟨i0, hi, hz0, hz1, hz2⟩ := info_parts infoNm
  have HI := Lib.hid (⟨hi, hz0, hz1, hz2⟩ : _ ∧ _ ∧ _ ∧ _)
  clear hi hz0 hz1 hz2
  have HF := Lib.hid hf
  have HXF := Lib.hid hx
  have hB0 := Blk.new (w.alloc (.cells (#[.string x.1, .int .i64 x.2.1, .string x.2.2.1, .string x.2.2.2.1, .int .i64 x.2.2.2.2]) 93)) 93 #[]
  rw [World.size_alloc] at hB0
  have H0 : Hid (PSN w x (.slice (some ⟨w.heap.size + 1, 0, none⟩) 0 0) [] ((w.alloc (.cells (#[.string x.1, .int .i64 x.2.1, .string x.2.2.1, .string x.2.2.2.1, .int .i64 x.2.2.2.2]) 93)).alloc (.cells #[] 93))) := Lib.hid ⟨own_of_blk (base := w.heap.size + 1) (n := 0) (k := 5) (xs := []) hB0 (Nat.le_refl _) (Nat.zero_le _) rfl rfl, (Blk.new w 93 (#[.string x.1, .int .i64 x.2.1, .string x.2.2.1, .string x.2.2.2.1, .int .i64 x.2.2.2.2])).alloc _, ((Below.refl w.heap.size w).alloc (Nat.le_refl _) _).alloc (by simp) _, fun y h => absurd h (by simp), by simp⟩
  obtain ⟨xs, xk, xa, xb, xn⟩ := x
  clear hf hx hB0
  go_enter Tryz.func79, Tryz.ntmps79
  go_wp2
  go_loopw [5, 6, 7] (fun v dn i wr => ∃ (k : Nat) (L : List Nm) (AL : Option Addr) (cL : Nat) (d : Bool), k ≤ l.length ∧ i = .int .i64 k ∧ dn = .bool d ∧ v = .slice AL L.length cL ∧ Hid (L.length + (if d = true then 0 else 1) ≤ k + 1) ∧ Hid (PSN w (xs, xk, xa, xb, xn) v L wr)) (fun _ _ i _ => l.length - (intOf i).toNat)
  case atStart => exact ⟨0, [], _, _, false, by omega, rfl, rfl, rfl, Lib.hid (by simp), H0⟩
  case round =>
    clear H0
    obtain ⟨k, L, AL, cL, d, hk, rfl, rfl, rfl, HL, HP⟩ := hrel
    have hwl := HP.out.2.2.2.2
    by_cases hlt : k < l.length
    · obtain ⟨b, o, e, _⟩ := hS (by omega)
      subst e
      have HKY := Lib.hid (List.getElem?_eq_getElem hlt)
      have HY := Lib.hid (HF.out l[k] (List.getElem_mem hlt))
      generalize l[k] = y at *
      have hki : (k : Int) < (l.length : Int) := by omega
      have hki0 : (0 : Int) ≤ (k : Int) := by omega
      have HS := Lib.hid hS
      clear hS
      obtain ⟨ys, yk, ya, yb, yn⟩ := y
      cases d
      case true =>
        obtain ⟨c0, c1, c2, c3, c4, hbl, hxl, x0⟩ := HP.out.cells HS.out HKY.out
        simp only at c0 c1 c2 c3 c4 x0
        go_wp2_with fail
        refine wp_region_below (by kernel_rfl) (by kernel_rfl) ?_
        iterate 12 (first | go_big_quiet_skip | (refine wpQuiet_step (fun K hK => ?_); go_simp; first | (apply Exists.intro; refine ⟨fun W hW => ?_, hK _ ?_⟩; (first | rfl | (have y0x := (hW.cell (p := ⟨b, o + k * 5, none⟩) hbl).trans c0; have x0x := (hW.cell (p := ⟨w.heap.size, 0, none⟩) hxl).trans x0; go_simp; rfl)); clear hK K) | (refine hK _ ?_; clear hK K)))
        refine wpQuiet_nil ?_
        intro W hW
        have HP := Lib.hid (HP.out.below hW)
        clear hW c0 c1 c2 c3 c4 x0 hbl hxl
        generalize W = Wa at *
        obtain ⟨c0, c1, c2, c3, c4, hbl, hxl, x0⟩ := HP.out.cells HS.out HKY.out
        simp only at c0 c1 c2 c3 c4 x0
        cases heq : (ys.toList == xs.toList)
        case false =>
          go_wp2_with fail
          refine wp_region_below (by kernel_rfl) (by kernel_rfl) ?_
          iterate 8 (first | go_big_quiet_skip | (refine wpQuiet_step (fun K hK => ?_); go_simp; first | (apply Exists.intro; refine ⟨fun W hW => ?_, hK _ ?_⟩; (first | rfl | (have y0x := (hW.cell (p := ⟨b, o + k * 5, none⟩) hbl).trans c0; have x0x := (hW.cell (p := ⟨w.heap.size, 0, none⟩) hxl).trans x0; go_simp; rfl)); clear hK K) | (refine hK _ ?_; clear hK K)))
          refine wpQuiet_nil ?_
          intro W hW
          have HP := Lib.hid (HP.out.below hW)
          clear hW c0 c1 c2 c3 c4 x0 hbl hxl
          generalize W = Wb at *
          obtain ⟨c0, c1, c2, c3, c4, hbl, hxl, x0⟩ := HP.out.cells HS.out HKY.out
          simp only at c0 c1 c2 c3 c4 x0
          have hlen : L.length ≤ 1000 := by have := HL.out; (try split at this) <;> omega
          have hownA := HP.out.1.alloc (.cells #[.string ys, .int .i64 yk, .string ya, .string yb, .int .i64 yn] 93)
          have hnewA := new_cells Wb [.string ys, .int .i64 yk, .string ya, .string yb, .int .i64 yn] 93
          have hszA := HP.out.2.2.2.2
          have HPA := Lib.hid HP.out
          go_wp2_with (at_builtin; refine wpList_append_own _ rfl (.tmp 39) (.tmp 44) 42 rfl (w.heap.size + 1) 93 i0 _ 5 64 Tryz.underlying42 HI.out.1 HI.out.2.1 HI.out.2.2.1 HI.out.2.2.2 rfl (by decide) (.slice AL L.length cL) L.length (L.flatMap encNm) rfl hownA ⟨Wb.heap.size, 0, none⟩ 1 1 [.string ys, .int .i64 yk, .string ya, .string yb, .int .i64 yn] rfl rfl hnewA (by simp [Value.oneCell']) (by unfold maxLen; omega) (by omega) (by simp; omega) ?_; intro v8 w8 ho8 hg8 _; obtain ⟨L8, hL8, hp8⟩ : ∃ M : List Nm, M.length = L.length + 1 ∧ PSN w (xs, xk, xa, xb, xn) v8 M w8 := ⟨_, List.length_append, PSN.app (z := (ys, yk, ya, yb, yn)) HPA.out HY.out _ ho8 hg8⟩; obtain ⟨A8, c8, rfl, _, _, _⟩ := hp8.1.sl; have HP := Lib.hid hp8; have HL8 := Lib.hid hL8; clear hownA hnewA hszA ho8 hg8 HPA hp8 hL8)
          go_roundw
          case rel => exact ⟨k + 1, L8, _, _, true, by omega, by go_num, rfl, rfl, Lib.hid (by have := HL.out; have := HL8.out; simp at *; omega), HP⟩
          case measure => simp [intOf]; omega
        case true =>
          go_wp2_with fail
          refine wp_region_below (by kernel_rfl) (by kernel_rfl) ?_
          iterate 8 (first | go_big_quiet_skip | (refine wpQuiet_step (fun K hK => ?_); go_simp; first | (apply Exists.intro; refine ⟨fun W hW => ?_, hK _ ?_⟩; (first | rfl | (have y0x := (hW.cell (p := ⟨b, o + k * 5, none⟩) hbl).trans c0; have x0x := (hW.cell (p := ⟨w.heap.size, 0, none⟩) hxl).trans x0; go_simp; rfl)); clear hK K) | (refine hK _ ?_; clear hK K)))
          refine wpQuiet_nil ?_
          intro W hW
          have HP := Lib.hid (HP.out.below hW)
          clear hW c0 c1 c2 c3 c4 x0 hbl hxl
          generalize W = Wb at *
          go_wp2
          go_roundw
          case rel => exact ⟨k + 1, L, _, _, true, by omega, by go_num, rfl, rfl, Lib.hid (by have := HL.out; simp at *; omega), HP⟩
          case measure => simp [intOf]; omega
      case false =>
        obtain ⟨c0, c1, c2, c3, c4, hbl, hxl, x0⟩ := HP.out.cells HS.out HKY.out
        simp only at c0 c1 c2 c3 c4 x0
        cases hab : ltB ys xs
        case true =>
          have hge : Op.bytesLess ys.toList xs.toList = true := hab
          clear hab
          go_wp2_with fail
          refine wp_region_below (by kernel_rfl) (by kernel_rfl) ?_
          iterate 12 (first | go_big_quiet_skip | (refine wpQuiet_step (fun K hK => ?_); go_simp; first | (apply Exists.intro; refine ⟨fun W hW => ?_, hK _ ?_⟩; (first | rfl | (have y0x := (hW.cell (p := ⟨b, o + k * 5, none⟩) hbl).trans c0; have x0x := (hW.cell (p := ⟨w.heap.size, 0, none⟩) hxl).trans x0; go_simp; rfl)); clear hK K) | (refine hK _ ?_; clear hK K)))
          refine wpQuiet_nil ?_
          intro W hW
          have HP := Lib.hid (HP.out.below hW)
          clear hW c0 c1 c2 c3 c4 x0 hbl hxl
          generalize W = Wa at *
          obtain ⟨c0, c1, c2, c3, c4, hbl, hxl, x0⟩ := HP.out.cells HS.out HKY.out
          simp only at c0 c1 c2 c3 c4 x0
          cases heq : (ys.toList == xs.toList)
          case false =>
            go_wp2_with fail
            refine wp_region_below (by kernel_rfl) (by kernel_rfl) ?_
            iterate 8 (first | go_big_quiet_skip | (refine wpQuiet_step (fun K hK => ?_); go_simp; first | (apply Exists.intro; refine ⟨fun W hW => ?_, hK _ ?_⟩; (first | rfl | (have y0x := (hW.cell (p := ⟨b, o + k * 5, none⟩) hbl).trans c0; have x0x := (hW.cell (p := ⟨w.heap.size, 0, none⟩) hxl).trans x0; go_simp; rfl)); clear hK K) | (refine hK _ ?_; clear hK K)))
            refine wpQuiet_nil ?_
            intro W hW
            have HP := Lib.hid (HP.out.below hW)
            clear hW c0 c1 c2 c3 c4 x0 hbl hxl
            generalize W = Wb at *
            obtain ⟨c0, c1, c2, c3, c4, hbl, hxl, x0⟩ := HP.out.cells HS.out HKY.out
            simp only at c0 c1 c2 c3 c4 x0
            have hlen : L.length ≤ 1000 := by have := HL.out; (try split at this) <;> omega
            have hownA := HP.out.1.alloc (.cells #[.string ys, .int .i64 yk, .string ya, .string yb, .int .i64 yn] 93)
            have hnewA := new_cells Wb [.string ys, .int .i64 yk, .string ya, .string yb, .int .i64 yn] 93
            have hszA := HP.out.2.2.2.2
            have HPA := Lib.hid HP.out
            go_wp2_with (at_builtin; refine wpList_append_own _ rfl (.tmp 39) (.tmp 44) 42 rfl (w.heap.size + 1) 93 i0 _ 5 64 Tryz.underlying42 HI.out.1 HI.out.2.1 HI.out.2.2.1 HI.out.2.2.2 rfl (by decide) (.slice AL L.length cL) L.length (L.flatMap encNm) rfl hownA ⟨Wb.heap.size, 0, none⟩ 1 1 [.string ys, .int .i64 yk, .string ya, .string yb, .int .i64 yn] rfl rfl hnewA (by simp [Value.oneCell']) (by unfold maxLen; omega) (by omega) (by simp; omega) ?_; intro v8 w8 ho8 hg8 _; obtain ⟨L8, hL8, hp8⟩ : ∃ M : List Nm, M.length = L.length + 1 ∧ PSN w (xs, xk, xa, xb, xn) v8 M w8 := ⟨_, List.length_append, PSN.app (z := (ys, yk, ya, yb, yn)) HPA.out HY.out _ ho8 hg8⟩; obtain ⟨A8, c8, rfl, _, _, _⟩ := hp8.1.sl; have HP := Lib.hid hp8; have HL8 := Lib.hid hL8; clear hownA hnewA hszA ho8 hg8 HPA hp8 hL8)
            go_roundw
            case rel => exact ⟨k + 1, L8, _, _, false, by omega, by go_num, rfl, rfl, Lib.hid (by have := HL.out; have := HL8.out; simp at *; omega), HP⟩
            case measure => simp [intOf]; omega
          case true =>
            go_wp2_with fail
            refine wp_region_below (by kernel_rfl) (by kernel_rfl) ?_
            iterate 8 (first | go_big_quiet_skip | (refine wpQuiet_step (fun K hK => ?_); go_simp; first | (apply Exists.intro; refine ⟨fun W hW => ?_, hK _ ?_⟩; (first | rfl | (have y0x := (hW.cell (p := ⟨b, o + k * 5, none⟩) hbl).trans c0; have x0x := (hW.cell (p := ⟨w.heap.size, 0, none⟩) hxl).trans x0; go_simp; rfl)); clear hK K) | (refine hK _ ?_; clear hK K)))
            refine wpQuiet_nil ?_
            intro W hW
            have HP := Lib.hid (HP.out.below hW)
            clear hW c0 c1 c2 c3 c4 x0 hbl hxl
            generalize W = Wb at *
            go_wp2
            go_roundw
            case rel => exact ⟨k + 1, L, _, _, false, by omega, by go_num, rfl, rfl, Lib.hid (by have := HL.out; simp at *; omega), HP⟩
            case measure => simp [intOf]; omega
        case false =>
          have hge : Op.bytesLess ys.toList xs.toList = false := hab
          clear hab
          go_wp2_with fail
          refine wp_region_below (by kernel_rfl) (by kernel_rfl) ?_
          iterate 12 (first | go_big_quiet_skip | (refine wpQuiet_step (fun K hK => ?_); go_simp; first | (apply Exists.intro; refine ⟨fun W hW => ?_, hK _ ?_⟩; (first | rfl | (have y0x := (hW.cell (p := ⟨b, o + k * 5, none⟩) hbl).trans c0; have x0x := (hW.cell (p := ⟨w.heap.size, 0, none⟩) hxl).trans x0; go_simp; rfl)); clear hK K) | (refine hK _ ?_; clear hK K)))
          refine wpQuiet_nil ?_
          intro W hW
          have HP := Lib.hid (HP.out.below hW)
          clear hW c0 c1 c2 c3 c4 x0 hbl hxl
          generalize W = Wa at *
          have hlen : L.length ≤ 1000 := by have := HL.out; (try split at this) <;> omega
          have x0 : Wa.cell? ⟨w.heap.size, 0, none⟩ = some (.string xs) := HP.out.2.1.cell 0
          have x1 : Wa.cell? ⟨w.heap.size, 1, none⟩ = some (.int .i64 xk) := HP.out.2.1.cell 1
          have x2 : Wa.cell? ⟨w.heap.size, 2, none⟩ = some (.string xa) := HP.out.2.1.cell 2
          have x3 : Wa.cell? ⟨w.heap.size, 3, none⟩ = some (.string xb) := HP.out.2.1.cell 3
          have x4 : Wa.cell? ⟨w.heap.size, 4, none⟩ = some (.int .i64 xn) := HP.out.2.1.cell 4
          have hxl := HP.out.2.1.lt
          have hownA := HP.out.1.alloc (.cells #[.string xs, .int .i64 xk, .string xa, .string xb, .int .i64 xn] 93)
          have hnewA := new_cells Wa [.string xs, .int .i64 xk, .string xa, .string xb, .int .i64 xn] 93
          have hszA := HP.out.2.2.2.2
          have HPA := Lib.hid HP.out
          go_wp2_with (at_builtin; refine wpList_append_own _ rfl (.tmp 27) (.tmp 29) 42 rfl (w.heap.size + 1) 93 i0 _ 5 64 Tryz.underlying42 HI.out.1 HI.out.2.1 HI.out.2.2.1 HI.out.2.2.2 rfl (by decide) (.slice AL L.length cL) L.length (L.flatMap encNm) rfl hownA ⟨Wa.heap.size, 0, none⟩ 1 1 [.string xs, .int .i64 xk, .string xa, .string xb, .int .i64 xn] rfl rfl hnewA (by simp [Value.oneCell']) (by unfold maxLen; omega) (by omega) (by simp; omega) ?_; intro v7 w7 ho7 hg7 _; obtain ⟨L7, hL7, hp7⟩ : ∃ M : List Nm, M.length = L.length + 1 ∧ PSN w (xs, xk, xa, xb, xn) v7 M w7 := ⟨_, List.length_append, PSN.app (z := (xs, xk, xa, xb, xn)) HPA.out HXF.out _ ho7 hg7⟩; obtain ⟨A7, c7, rfl, _, _, _⟩ := hp7.1.sl; have HP := Lib.hid hp7; have HL7 := Lib.hid hL7; clear hownA hnewA hszA ho7 hg7 HPA hp7 hL7)
          have HL := Lib.hid (show L7.length ≤ k + 1 by have := HL.out; have := HL7.out; simp at *; omega)
          try clear hge
          clear x0 x1 x2 x3 x4 hxl
          obtain ⟨c0, c1, c2, c3, c4, hbl, hxl, x0⟩ := HP.out.cells HS.out HKY.out
          simp only at c0 c1 c2 c3 c4 x0
          cases heq : (ys.toList == xs.toList)
          case false =>
            go_wp2_with fail
            refine wp_region_below (by kernel_rfl) (by kernel_rfl) ?_
            iterate 8 (first | go_big_quiet_skip | (refine wpQuiet_step (fun K hK => ?_); go_simp; first | (apply Exists.intro; refine ⟨fun W hW => ?_, hK _ ?_⟩; (first | rfl | (have y0x := (hW.cell (p := ⟨b, o + k * 5, none⟩) hbl).trans c0; have x0x := (hW.cell (p := ⟨w.heap.size, 0, none⟩) hxl).trans x0; go_simp; rfl)); clear hK K) | (refine hK _ ?_; clear hK K)))
            refine wpQuiet_nil ?_
            intro W hW
            have HP := Lib.hid (HP.out.below hW)
            clear hW c0 c1 c2 c3 c4 x0 hbl hxl
            generalize W = Wb at *
            obtain ⟨c0, c1, c2, c3, c4, hbl, hxl, x0⟩ := HP.out.cells HS.out HKY.out
            simp only at c0 c1 c2 c3 c4 x0
            have hlen : L7.length ≤ 1000 := by have := HL.out; (try split at this) <;> omega
            have hownA := HP.out.1.alloc (.cells #[.string ys, .int .i64 yk, .string ya, .string yb, .int .i64 yn] 93)
            have hnewA := new_cells Wb [.string ys, .int .i64 yk, .string ya, .string yb, .int .i64 yn] 93
            have hszA := HP.out.2.2.2.2
            have HPA := Lib.hid HP.out
            go_wp2_with (at_builtin; refine wpList_append_own _ rfl (.tmp 39) (.tmp 44) 42 rfl (w.heap.size + 1) 93 i0 _ 5 64 Tryz.underlying42 HI.out.1 HI.out.2.1 HI.out.2.2.1 HI.out.2.2.2 rfl (by decide) (.slice A7 L7.length c7) L7.length (L7.flatMap encNm) rfl hownA ⟨Wb.heap.size, 0, none⟩ 1 1 [.string ys, .int .i64 yk, .string ya, .string yb, .int .i64 yn] rfl rfl hnewA (by simp [Value.oneCell']) (by unfold maxLen; omega) (by omega) (by simp; omega) ?_; intro v8 w8 ho8 hg8 _; obtain ⟨L8, hL8, hp8⟩ : ∃ M : List Nm, M.length = L7.length + 1 ∧ PSN w (xs, xk, xa, xb, xn) v8 M w8 := ⟨_, List.length_append, PSN.app (z := (ys, yk, ya, yb, yn)) HPA.out HY.out _ ho8 hg8⟩; obtain ⟨A8, c8, rfl, _, _, _⟩ := hp8.1.sl; have HP := Lib.hid hp8; have HL8 := Lib.hid hL8; clear hownA hnewA hszA ho8 hg8 HPA hp8 hL8)
            go_roundw
            case rel => exact ⟨k + 1, L8, _, _, true, by omega, by go_num, rfl, rfl, Lib.hid (by have := HL.out; have := HL8.out; simp at *; omega), HP⟩
            case measure => simp [intOf]; omega
          case true =>
            go_wp2_with fail
            refine wp_region_below (by kernel_rfl) (by kernel_rfl) ?_
            iterate 8 (first | go_big_quiet_skip | (refine wpQuiet_step (fun K hK => ?_); go_simp; first | (apply Exists.intro; refine ⟨fun W hW => ?_, hK _ ?_⟩; (first | rfl | (have y0x := (hW.cell (p := ⟨b, o + k * 5, none⟩) hbl).trans c0; have x0x := (hW.cell (p := ⟨w.heap.size, 0, none⟩) hxl).trans x0; go_simp; rfl)); clear hK K) | (refine hK _ ?_; clear hK K)))
            refine wpQuiet_nil ?_
            intro W hW
            have HP := Lib.hid (HP.out.below hW)
            clear hW c0 c1 c2 c3 c4 x0 hbl hxl
            generalize W = Wb at *
            go_wp2
            go_roundw
            case rel => exact ⟨k + 1, L7, _, _, true, by omega, by go_num, rfl, rfl, Lib.hid (by have := HL.out; simp at *; omega), HP⟩
            case measure => simp [intOf]; omega
    · obtain rfl : k = l.length := by omega
      have hlen : L.length ≤ 1000 := by have := HL.out; split at this <;> omega
      cases d
      case true =>
        have HL := Lib.hid (show L.length ≤ l.length + 1 by have := HL.out; simp at this; omega)
        go_wp2
        go_ret
        exact ⟨_, _, L, rfl, HP.out.1.leB (by omega), HL.out, HP.out.2.2.2.1, HP.out.2.2.1⟩
      case false =>
        have HL := Lib.hid (show L.length ≤ l.length by have := HL.out; simp at this; omega)
        have x0 : wr.cell? ⟨w.heap.size, 0, none⟩ = some (.string xs) := HP.out.2.1.cell 0
        have x1 : wr.cell? ⟨w.heap.size, 1, none⟩ = some (.int .i64 xk) := HP.out.2.1.cell 1
        have x2 : wr.cell? ⟨w.heap.size, 2, none⟩ = some (.string xa) := HP.out.2.1.cell 2
        have x3 : wr.cell? ⟨w.heap.size, 3, none⟩ = some (.string xb) := HP.out.2.1.cell 3
        have x4 : wr.cell? ⟨w.heap.size, 4, none⟩ = some (.int .i64 xn) := HP.out.2.1.cell 4
        have hxl := HP.out.2.1.lt
        have hownA := HP.out.1.alloc (.cells #[.string xs, .int .i64 xk, .string xa, .string xb, .int .i64 xn] 93)
        have hnewA := new_cells wr [.string xs, .int .i64 xk, .string xa, .string xb, .int .i64 xn] 93
        have hszA := HP.out.2.2.2.2
        have HPA := Lib.hid HP.out
        go_wp2_with (at_builtin; refine wpList_append_own _ rfl (.tmp 48) (.tmp 50) 42 rfl (w.heap.size + 1) 93 i0 _ 5 64 Tryz.underlying42 HI.out.1 HI.out.2.1 HI.out.2.2.1 HI.out.2.2.2 rfl (by decide) (.slice AL L.length cL) L.length (L.flatMap encNm) rfl hownA ⟨wr.heap.size, 0, none⟩ 1 1 [.string xs, .int .i64 xk, .string xa, .string xb, .int .i64 xn] rfl rfl hnewA (by simp [Value.oneCell']) (by unfold maxLen; omega) (by omega) (by simp; omega) ?_; intro v7 w7 ho7 hg7 _; obtain ⟨L7, hL7, hp7⟩ : ∃ M : List Nm, M.length = L.length + 1 ∧ PSN w (xs, xk, xa, xb, xn) v7 M w7 := ⟨_, List.length_append, PSN.app (z := (xs, xk, xa, xb, xn)) HPA.out HXF.out _ ho7 hg7⟩; obtain ⟨A7, c7, rfl, _, _, _⟩ := hp7.1.sl; have HP := Lib.hid hp7; have HL7 := Lib.hid hL7; clear hownA hnewA hszA ho7 hg7 HPA hp7 hL7)
        go_ret
        exact ⟨_, _, _, rfl, HP.out.1.leB (by omega), by have := HL.out; have := HL7.out; omega, HP.out.2.2.2.1, HP.out.2.2.1⟩
end Go.Proofs.YtfmhhckkpenldaaGreatDoor
