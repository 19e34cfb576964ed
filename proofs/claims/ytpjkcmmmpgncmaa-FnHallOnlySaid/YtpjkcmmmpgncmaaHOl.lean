import Derived.Deep.RegionHeld3
import Derived.BigQuiet
import Derived.Test.YtpjkcmmmpgncmaaM29
/- FnHallOnly, but for what is drawn: what happens to one alone, in order. -/
namespace Go.Proofs.Ytpjkcmmmpgncmaa
open Go.RowKit
theorem filtE_at {M : List EvV} {p : EvV → Bool} {i : Nat} (h : i < M.length) (hp : p M[i] = true) : (M.filter p)[((M.take i).filter p).length]? = some M[i] := by
  have e : M.filter p = (M.take i).filter p ++ M[i] :: (M.drop (i + 1)).filter p := by
    conv => lhs; rw [← List.take_append_drop i M, List.filter_append, List.drop_eq_getElem_cons h, List.filter_cons, if_pos hp]
  rw [e, List.getElem?_append_right (Nat.le_refl _)]
  simp
/-- how DrawHallOnly leaves -/
def DrawHO (w : World) (e : Ending) (w' : World) : Prop := ∃ (A' : Option Addr) (l : List EvV) (c' : Nat) (who : Int), e = .returned (.tuple #[.slice A' l.length c', .int .i64 who]) ∧ Sl encEv 3 w' A' l ∧ l.length ≤ 1000 ∧ Below w.heap.size w w'
set_option maxRecDepth 100000 in
set_option maxHeartbeats 8000000 in
theorem lawHO_of (A : Option Addr) (bs : List UInt8) (c : Nat) (w : World) (HD : bs.length ≤ 1048576 → Calls Try.prog 24 #[.slice A bs.length c] w (DrawHO w)) :
    Calls Try.prog 6 #[.slice A bs.length c] w fun e w' => e = .returned (.bool true) ∧ Below w.heap.size w w' := by
  go_enter Try.func6, Try.ntmps6
  by_cases hbig : 1048576 < bs.length
  · have d0 : decide ((1048576 : Int) < (bs.length : Int)) = true := decide_eq_true (by omega)
    go_wp2
    go_ret
    exact ⟨rfl, Below.refl _ _⟩
  have d0 : decide ((1048576 : Int) < (bs.length : Int)) = false := decide_eq_false (by omega)
  have HDD := Lib.hid (HD (by omega))
  clear HD hbig
  go_wp2_with fail
  refine HDD.out.mono ?_
  rintro e w1 ⟨A1, l, c1, who, rfl, hS1, hl, hb1⟩
  have HS1 := Lib.hid hS1
  clear hS1 HDD d0
  go_wp2_with fail
  refine (implOnly_any A1 l c1 who _ (by omega) HS1.out).mono ?_
  rintro e w2 ⟨v2, rfl, ho2, hb2⟩
  obtain ⟨A2, c2, rfl, _, _, hS2⟩ := Sl.of_own encEv_len ho2
  go_wp2_with fail
  refine (specOnly_any A1 l c1 who _ (by omega) (HS1.out.below hb2)).mono ?_
  rintro e w3 ⟨v3, rfl, ho3, hb3⟩
  obtain ⟨A3, c3, rfl, _, _, hS3⟩ := Sl.of_own encEv_len ho3
  have hb23 := bthen hb2 hb3
  have hb03 := bthen hb1 hb23
  have HL := Lib.hid (HS1.out.below hb23)
  have HX := Lib.hid (hS2.below hb3)
  have HY := Lib.hid hS3
  have hRl := only_le l who
  obtain ⟨R, hR⟩ : ∃ R, R = onlyE l who := ⟨_, rfl⟩
  rw [← hR] at HX HY hRl ⊢
  have HR := Lib.hid hR
  clear hS2 hS3 ho2 ho3 hb2 hb3 hb1 hb23 hR HS1
  have HBE := Lib.hid hb03
  clear hb03
  go_wp2
  go_loopw [7, 8] (fun kk i wr => ∃ (i0 k0 : Nat), i0 ≤ l.length ∧ i = .int .i64 i0 ∧ kk = .int .i64 k0 ∧ Hid (k0 = (onlyE (l.take i0) who).length) ∧ k0 ≤ 1000 ∧ Hid (Below w3.heap.size w3 wr)) (fun _ i _ => l.length - (intOf i).toNat)
  case atStart => exact ⟨0, 0, by omega, rfl, rfl, Lib.hid rfl, by omega, Lib.hid (Below.refl _ _)⟩
  case round =>
    obtain ⟨i0, k0, hi, rfl, rfl, HK, hk1, HB⟩ := hrel
    by_cases hlt : i0 < l.length
    · obtain ⟨b, o, hA1, hbl, c0, c1', c2'⟩ := Sl.at3 (HL.out.below HB.out) hlt
      have hke := List.getElem?_eq_getElem hlt
      have hki : (i0 : Int) < (l.length : Int) := by omega
      have hki0 : (0 : Int) ≤ (i0 : Int) := by omega
      have HAT := Lib.hid (fun (hq : (l[i0].2.1 == who) = true) => filtE_at (p := fun x => x.2.1 == who) hlt hq)
      have HYES := Lib.hid (fun (hq : (l[i0].2.1 == who) = true) => only_yes (who := who) hke hq)
      have HNO := Lib.hid (fun (hq : ¬ (l[i0].2.1 == who) = true) => only_no (who := who) hke hq)
      subst hA1
      generalize l[i0] = y at *
      obtain ⟨yk, yw, yb⟩ := y
      simp only at c0 c1' c2'
      by_cases hqe : yw = who
      · subst hqe
        have hq : (yw == yw) = true := by simp
        have hat := HAT.out hq
        have hkl : k0 < R.length := by
          have h1 := (List.getElem?_eq_some_iff.1 hat).1
          rw [HK.out, HR.out]; exact h1
        have hRk : R[k0] = (yk, yw, yb) := by
          have h1 := (List.getElem?_eq_some_iff.1 hat).2
          have h2 : R[k0]? = some (yk, yw, yb) := by rw [HR.out, HK.out]; exact hat
          exact (List.getElem?_eq_some_iff.1 h2).2
        have HK1 := Lib.hid (show k0 + 1 = (onlyE (l.take (i0 + 1)) yw).length by rw [HYES.out hq, List.length_append, ← HK.out]; rfl)
        obtain ⟨bx, ox, hA2, hbx, x0, x1, x2⟩ := Sl.at3 (HX.out.below HB.out) hkl
        obtain ⟨by_, oy, hA3, hby, y0, y1, y2⟩ := Sl.at3 (HY.out.below HB.out) hkl
        rw [hRk] at x0 x1 x2 y0 y1 y2
        simp only at x0 x1 x2 y0 y1 y2
        subst hA2 hA3
        have hkk : (k0 : Int) < (R.length : Int) := by omega
        have hkk0 : (0 : Int) ≤ (k0 : Int) := by omega
        clear hat hRk hke
        go_wp2_with fail
        refine wp_region_below (by kernel_rfl) (by kernel_rfl) ?_
        iterate 20 (first | go_big_quiet_skip | (refine wpQuiet_step (fun K hK => ?_); go_simp; first | (apply Exists.intro; refine ⟨fun W hW => ?_, hK _ ?_⟩; (first | rfl | (have z0 := (hW.cell (p := ⟨b, o + i0 * 3, none⟩) hbl).trans c0; have z1 := (hW.cell (p := ⟨b, o + i0 * 3 + 1, none⟩) hbl).trans c1'; have z2 := (hW.cell (p := ⟨b, o + i0 * 3 + 2, none⟩) hbl).trans c2'; have p0 := (hW.cell (p := ⟨bx, ox + k0 * 3, none⟩) hbx).trans x0; have p1 := (hW.cell (p := ⟨bx, ox + k0 * 3 + 1, none⟩) hbx).trans x1; have p2 := (hW.cell (p := ⟨bx, ox + k0 * 3 + 2, none⟩) hbx).trans x2; have q0 := (hW.cell (p := ⟨by_, oy + k0 * 3, none⟩) hby).trans y0; have q1 := (hW.cell (p := ⟨by_, oy + k0 * 3 + 1, none⟩) hby).trans y1; have q2 := (hW.cell (p := ⟨by_, oy + k0 * 3 + 2, none⟩) hby).trans y2; go_simp; rfl)); clear hK K) | (refine hK _ ?_; clear hK K)))
        refine wpQuiet_nil ?_
        intro W hW
        have HBW := Lib.hid (bthen HB.out hW)
        go_wp2
        go_roundw
        case rel => exact ⟨i0 + 1, k0 + 1, by omega, by go_num, by go_num, HK1, by omega, HBW⟩
        case measure => simp [intOf]; omega
      · have hqf : (yw == who) = false := by simpa using hqe
        have HK1 := Lib.hid (show k0 = (onlyE (l.take (i0 + 1)) who).length by rw [HNO.out (by simpa using hqe)]; exact HK.out)
        go_wp2
        go_roundw
        case rel => exact ⟨i0 + 1, k0, by omega, by go_num, rfl, HK1, hk1, HB⟩
        case measure => simp [intOf]; omega
    · obtain rfl : i0 = l.length := by omega
      have hkR : k0 = R.length := by have h1 := HK.out; rw [List.take_length, ← HR.out] at h1; exact h1
      subst hkR
      have hbe := bthen HBE.out HB.out
      go_wp2
      go_ret
      exact ⟨rfl, hbe⟩
end Go.Proofs.Ytpjkcmmmpgncmaa
