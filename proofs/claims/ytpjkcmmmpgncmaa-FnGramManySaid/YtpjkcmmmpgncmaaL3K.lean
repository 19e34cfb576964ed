import Derived.Deep.RegionHeld3
import Derived.BigQuiet
import Derived.Test.YtpjkcmmmpgncmaaM13
import Derived.Test.YtpjkcmmmpgncmaaL3W
/- The reference on what one did: new, right, its rows. -/
namespace Go.Proofs.Ytpjkcmmmpgncmaa
open Go.RowKit
set_option maxRecDepth 100000 in
set_option maxHeartbeats 2000000 in
theorem workNew_any (A : Option Addr) (l : List Ver) (c : Nat) (now : Int) (w : World) (hV : VK w now A l) :
    Calls Try.prog 215 #[.agg #[.int .i64 now, .slice A l.length c]] w fun e w' => ∃ (t : Int) (A' : Option Addr), e = .returned (.agg #[.int .i64 t, .slice A' 0 0]) ∧ Below w.heap.size w w' := by
  have hb0 := ((Below.refl w.heap.size w).alloc (Nat.le_refl _) (.cells #[.int .i64 now, .slice A l.length c] 32)).alloc (by simp) (.cells #[.int .i64 0, .slice none 0 0] 76)
  have hB1 := (Blk.new w 32 #[.int .i64 now, .slice A l.length c]).alloc (.cells #[.int .i64 0, .slice none 0 0] 76)
  have hB2 := Blk.new (w.alloc (.cells #[.int .i64 now, .slice A l.length c] 32)) 76 #[.int .i64 0, .slice none 0 0]
  rw [World.size_alloc] at hB2
  go_enter Try.func215, Try.ntmps215
  go_wp2_with fail
  generalize (w.alloc (.cells #[.int .i64 now, .slice A l.length c] 32)).alloc (.cells #[.int .i64 0, .slice none 0 0] 76) = w0 at *
  refine (specVersOk_any A l c now w0 hV.2.1 (by have := hV.2.2.1; omega) (hV.sl.below hb0)).mono ?_
  rintro e w1 ⟨rfl, hb1⟩
  have hbw1 := bthen hb0 hb1
  cases hv : versB now l
  · have hB21 := hB2.kept hb1
    have z0 := hB21.frozen 0
    have z1 := hB21.frozen 1
    have x0 : w1.cell? ⟨w.heap.size + 1, 0, none⟩ = some (.int .i64 0) := hB21.cell 0
    have x1 : w1.cell? ⟨w.heap.size + 1, 1, none⟩ = some (.slice none 0 0) := hB21.cell 1
    obtain ⟨q0, q1⟩ := hB21.two (.int .i64 0) (.slice none 0 0)
    go_wp2
    refine bodyPost_ret (v := .agg #[.int .i64 0, .slice none 0 0]) (by simp [results, Try.results215, go_sem, q0, q1]) rfl ⟨_, _, rfl, (hbw1.setCell (by simp) _).setCell (by simp) _⟩
  · have hba := kA w1 (.cells #[] 46)
    have hB21 := (hB2.kept hb1).kept hba
    have hB11 := hB1.kept hb1
    have hl1 := hB11.lt
    have z0 := hB21.frozen 0
    have z1 := hB21.frozen 1
    have r0 : w1.cell? ⟨w.heap.size, 0, none⟩ = some (.int .i64 now) := hB11.cell 0
    have x0 : (w1.alloc (.cells #[] 46)).cell? ⟨w.heap.size + 1, 0, none⟩ = some (.int .i64 0) := hB21.cell 0
    have x1 : (w1.alloc (.cells #[] 46)).cell? ⟨w.heap.size + 1, 1, none⟩ = some (.slice none 0 0) := hB21.cell 1
    obtain ⟨q0, q1⟩ := hB21.two (.int .i64 now) (.slice (some ⟨w1.heap.size, 0, none⟩) 0 0)
    have hbw2 := bthen hbw1 hba
    go_wp2
    refine bodyPost_ret (v := .agg #[.int .i64 now, .slice (some ⟨w1.heap.size, 0, none⟩) 0 0]) (by simp [results, Try.results215, go_sem, q0, q1]) rfl ⟨_, _, rfl, (hbw2.setCell (by simp) _).setCell (by simp) _⟩
/-- when what one did is right -/
noncomputable def workB (now : Int) (l : List Ver) (t : Int) (ws : List Wri) : Bool := versB now l && (decide (0 ≤ t) && (decide (t ≤ now) && (wrsB 6 ws && rowsB (rowsN (atL l t) ws))))
theorem atL_size {l : List Ver} {t : Int} (hf : FitsV l) : ∀ x ∈ atL l t, x.1.size ≤ maxLen := by
  intro x hx
  unfold atL at hx
  obtain ⟨y, hy, rfl⟩ := List.mem_map.1 hx
  exact hf.2 y (List.mem_filter.1 hy).1
/-- the two boxes of a store and of what one did -/
def BX2 (g : Nat) (now : Int) (A : Option Addr) (l : List Ver) (c : Nat) (t : Int) (A2 : Option Addr) (ws : List Wri) (c2 : Nat) (W : World) : Prop :=
  Blk W g 32 #[.int .i64 now, .slice A l.length c] ∧ Blk W (g + 1) 76 #[.int .i64 t, .slice A2 ws.length c2] ∧ VK W now A l ∧ WK W A2 ws
theorem BX2.kept {g : Nat} {now : Int} {A : Option Addr} {l : List Ver} {c : Nat} {t : Int} {A2 : Option Addr} {ws : List Wri} {c2 : Nat} {W W' : World} (h : BX2 g now A l c t A2 ws c2 W) (hb : Below W.heap.size W W') : BX2 g now A l c t A2 ws c2 W' :=
  ⟨h.1.kept hb, h.2.1.kept hb, h.2.2.1.kp (Kp.below hb), h.2.2.2.kp (Kp.below hb)⟩
theorem BX2.new {w : World} {now : Int} {A : Option Addr} {l : List Ver} {c : Nat} {t : Int} {A2 : Option Addr} {ws : List Wri} {c2 : Nat} (hV : VK w now A l) (hW : WK w A2 ws) :
    BX2 w.heap.size now A l c t A2 ws c2 ((w.alloc (.cells #[.int .i64 now, .slice A l.length c] 32)).alloc (.cells #[.int .i64 t, .slice A2 ws.length c2] 76)) := by
  have hb := bthen (kA w (.cells #[.int .i64 now, .slice A l.length c] 32)) (kA _ (.cells #[.int .i64 t, .slice A2 ws.length c2] 76))
  have h2 := Blk.new (w.alloc (.cells #[.int .i64 now, .slice A l.length c] 32)) 76 #[.int .i64 t, .slice A2 ws.length c2]
  rw [World.size_alloc] at h2
  exact ⟨(Blk.new w _ _).alloc _, h2, hV.kp (Kp.below hb), hW.kp (Kp.below hb)⟩
set_option maxRecDepth 100000 in
set_option maxHeartbeats 8000000 in
theorem workOk_any (A : Option Addr) (l : List Ver) (c : Nat) (now : Int) (t : Int) (A2 : Option Addr) (ws : List Wri) (c2 : Nat) (w : World) (hV : VK w now A l) (hW : WK w A2 ws) :
    Calls Try.prog 229 #[.agg #[.int .i64 now, .slice A l.length c], .agg #[.int .i64 t, .slice A2 ws.length c2]] w fun e w' => e = .returned (.bool (workB now l t ws)) ∧ Below w.heap.size w w' := by
  have hl : l.length ≤ 60 := hV.2.2.1
  have hw8 : ws.length ≤ 8 := hW.2.2
  have HX := Lib.hid (BX2.new (c := c) (t := t) (c2 := c2) hV hW)
  have HB := Lib.hid (bthen (kA w (.cells #[.int .i64 now, .slice A l.length c] 32)) (kA _ (.cells #[.int .i64 t, .slice A2 ws.length c2] 76)))
  have hsz : w.heap.size + 1 < ((w.alloc (.cells #[.int .i64 now, .slice A l.length c] 32)).alloc (.cells #[.int .i64 t, .slice A2 ws.length c2] 76)).heap.size := by simp
  clear hV hW
  go_enter Try.func229, Try.ntmps229
  go_wp2_with fail
  generalize (w.alloc (.cells #[.int .i64 now, .slice A l.length c] 32)).alloc (.cells #[.int .i64 t, .slice A2 ws.length c2] 76) = w0 at *
  have x0 : w0.cell? ⟨w.heap.size, 0, none⟩ = some (.int .i64 now) := HX.out.1.cell 0
  have x1 : w0.cell? ⟨w.heap.size, 1, none⟩ = some (.slice A l.length c) := HX.out.1.cell 1
  have x2 : w0.cell? ⟨w.heap.size + 1, 0, none⟩ = some (.int .i64 t) := HX.out.2.1.cell 0
  have x3 : w0.cell? ⟨w.heap.size + 1, 1, none⟩ = some (.slice A2 ws.length c2) := HX.out.2.1.cell 1
  have hg : w.heap.size < w0.heap.size := by omega
  cases hv : versB now l
  · have HE := Lib.hid (show workB now l t ws = false by unfold workB; rw [hv]; rfl)
    refine wp_region_below (by kernel_rfl) (by kernel_rfl) ?_
    iterate 30 (first | go_big_quiet_skip | (refine wpQuiet_step (fun K hK => ?_); go_simp; first | (apply Exists.intro; refine ⟨fun W hW => ?_, hK _ ?_⟩; (first | rfl | (go_at_call 28; exact quiet_call hW (Nat.le_refl _) (specVersOk_any A l c now W HX.out.2.2.1.2.1 (by omega) (HX.out.kept hW).2.2.1.sl)) | (have y0 := (hW.cell (p := ⟨w.heap.size, 0, none⟩) hg).trans x0; have y1 := (hW.cell (p := ⟨w.heap.size, 1, none⟩) hg).trans x1; go_simp; rfl)); clear hK K) | (refine hK _ ?_; clear hK K)))
    refine wpQuiet_nil ?_
    intro W hW
    have HB := Lib.hid (bthen HB.out hW)
    go_wp2
    go_ret
    exact ⟨ret_bool HE.out.symm, HB.out⟩
  by_cases ht : 0 ≤ t
  case neg =>
    have d0 : decide ((0 : Int) ≤ t) = false := decide_eq_false ht
    have HE := Lib.hid (show workB now l t ws = false by unfold workB; rw [hv, d0]; rfl)
    have HV := Lib.hid hv
    refine wp_region_below (by kernel_rfl) (by kernel_rfl) ?_
    iterate 30 (first | go_big_quiet_skip | (refine wpQuiet_step (fun K hK => ?_); go_simp; first | (apply Exists.intro; refine ⟨fun W hW => ?_, hK _ ?_⟩; (first | rfl | (go_at_call 28; exact quiet_call hW (Nat.le_refl _) (HV.out ▸ specVersOk_any A l c now W HX.out.2.2.1.2.1 (by omega) (HX.out.kept hW).2.2.1.sl)) | (have y0 := (hW.cell (p := ⟨w.heap.size, 0, none⟩) hg).trans x0; have y1 := (hW.cell (p := ⟨w.heap.size, 1, none⟩) hg).trans x1; have y2 := (hW.cell (p := ⟨w.heap.size + 1, 0, none⟩) hsz).trans x2; have y3 := (hW.cell (p := ⟨w.heap.size + 1, 1, none⟩) hsz).trans x3; go_simp; rfl)); clear hK K) | (refine hK _ ?_; clear hK K)))
    refine wpQuiet_nil ?_
    intro W hW
    have HB := Lib.hid (bthen HB.out hW)
    go_wp2
    go_ret
    exact ⟨ret_bool HE.out.symm, HB.out⟩
  have d0 : decide ((0 : Int) ≤ t) = true := decide_eq_true ht
  by_cases ht2 : t ≤ now
  case neg =>
    have d1 : decide (t ≤ now) = false := decide_eq_false ht2
    have HE := Lib.hid (show workB now l t ws = false by unfold workB; rw [hv, d0, d1]; rfl)
    have HV := Lib.hid hv
    refine wp_region_below (by kernel_rfl) (by kernel_rfl) ?_
    iterate 30 (first | go_big_quiet_skip | (refine wpQuiet_step (fun K hK => ?_); go_simp; first | (apply Exists.intro; refine ⟨fun W hW => ?_, hK _ ?_⟩; (first | rfl | (go_at_call 28; exact quiet_call hW (Nat.le_refl _) (HV.out ▸ specVersOk_any A l c now W HX.out.2.2.1.2.1 (by omega) (HX.out.kept hW).2.2.1.sl)) | (have y0 := (hW.cell (p := ⟨w.heap.size, 0, none⟩) hg).trans x0; have y1 := (hW.cell (p := ⟨w.heap.size, 1, none⟩) hg).trans x1; have y2 := (hW.cell (p := ⟨w.heap.size + 1, 0, none⟩) hsz).trans x2; have y3 := (hW.cell (p := ⟨w.heap.size + 1, 1, none⟩) hsz).trans x3; go_simp; rfl)); clear hK K) | (refine hK _ ?_; clear hK K)))
    refine wpQuiet_nil ?_
    intro W hW
    have HB := Lib.hid (bthen HB.out hW)
    go_wp2
    go_ret
    exact ⟨ret_bool HE.out.symm, HB.out⟩
  have d1 : decide (t ≤ now) = true := decide_eq_true ht2
  cases hw : wrsB 6 ws
  · have HE := Lib.hid (show workB now l t ws = false by unfold workB; rw [hv, d0, d1, hw]; rfl)
    have HV := Lib.hid (⟨hv, hw⟩ : _ ∧ _)
    refine wp_region_below (by kernel_rfl) (by kernel_rfl) ?_
    iterate 30 (first | go_big_quiet_skip | (refine wpQuiet_step (fun K hK => ?_); go_simp; first | (apply Exists.intro; refine ⟨fun W hW => ?_, hK _ ?_⟩; (first | rfl | (go_at_call 28; exact quiet_call hW (Nat.le_refl _) (HV.out.1 ▸ specVersOk_any A l c now W HX.out.2.2.1.2.1 (by omega) (HX.out.kept hW).2.2.1.sl)) | (go_at_call 107; exact quiet_call hW (Nat.le_refl _) (HV.out.2 ▸ specWritesOk_any A2 ws c2 W HX.out.2.2.2.2.1 (by omega) (HX.out.kept hW).2.2.2.sl)) | (have y0 := (hW.cell (p := ⟨w.heap.size, 0, none⟩) hg).trans x0; have y1 := (hW.cell (p := ⟨w.heap.size, 1, none⟩) hg).trans x1; have y2 := (hW.cell (p := ⟨w.heap.size + 1, 0, none⟩) hsz).trans x2; have y3 := (hW.cell (p := ⟨w.heap.size + 1, 1, none⟩) hsz).trans x3; go_simp; rfl)); clear hK K) | (refine hK _ ?_; clear hK K)))
    refine wpQuiet_nil ?_
    intro W hW
    have HB := Lib.hid (bthen HB.out hW)
    go_wp2
    go_ret
    exact ⟨ret_bool HE.out.symm, HB.out⟩
  have HE := Lib.hid (show workB now l t ws = rowsB (rowsN (atL l t) ws) by unfold workB; rw [hv, d0, d1, hw]; simp)
  have HX := Lib.hid (HX.out.kept (kD w0))
  have HB := Lib.hid (bthen HB.out (kD w0))
  have hal : (atL l t).length ≤ 60 := by have := atL_le l t; omega
  go_region_held3 (fun W => W.cell? ⟨w.heap.size, 0, none⟩ = some (.int .i64 now) ∧ W.cell? ⟨w.heap.size, 1, none⟩ = some (.slice A l.length c) ∧ W.cell? ⟨w.heap.size + 1, 0, none⟩ = some (.int .i64 t) ∧ W.cell? ⟨w.heap.size + 1, 1, none⟩ = some (.slice A2 ws.length c2))
    (first | assumption | go_keep)
    (first
      | (go_at_call 28
         refine (specVersOk_any A l c now _ HX.out.2.2.1.2.1 (by omega) HX.out.2.2.1.sl).mono ?_
         rintro e wk ⟨rfl, hbk⟩
         have HX := Lib.hid (HX.out.kept hbk)
         have HB := Lib.hid (bthen HB.out hbk)
         have hkk : wk.cell? ⟨w.heap.size, 0, none⟩ = some (.int .i64 now) ∧ wk.cell? ⟨w.heap.size, 1, none⟩ = some (.slice A l.length c) ∧ wk.cell? ⟨w.heap.size + 1, 0, none⟩ = some (.int .i64 t) ∧ wk.cell? ⟨w.heap.size + 1, 1, none⟩ = some (.slice A2 ws.length c2) := ⟨HX.out.1.cell 0, HX.out.1.cell 1, HX.out.2.1.cell 0, HX.out.2.1.cell 1⟩
         clear hbk)
      | (go_at_call 107
         refine (specWritesOk_any A2 ws c2 _ HX.out.2.2.2.2.1 (by omega) HX.out.2.2.2.sl).mono ?_
         rintro e wk ⟨rfl, hbk⟩
         have HX := Lib.hid (HX.out.kept hbk)
         have HB := Lib.hid (bthen HB.out hbk)
         have hkk : wk.cell? ⟨w.heap.size, 0, none⟩ = some (.int .i64 now) ∧ wk.cell? ⟨w.heap.size, 1, none⟩ = some (.slice A l.length c) ∧ wk.cell? ⟨w.heap.size + 1, 0, none⟩ = some (.int .i64 t) ∧ wk.cell? ⟨w.heap.size + 1, 1, none⟩ = some (.slice A2 ws.length c2) := ⟨HX.out.1.cell 0, HX.out.1.cell 1, HX.out.2.1.cell 0, HX.out.2.1.cell 1⟩
         clear hbk)
      | (go_at_call 60
         refine (l2At_any A l c now t _ (by omega) HX.out.2.2.1.sl).mono ?_
         rintro e wk ⟨va, rfl, hoa, hbk⟩
         obtain ⟨Aa, ca, rfl, _, _, _⟩ := OwnR.sl (l := atL l t) hoa
         have HO := Lib.hid hoa
         have HX := Lib.hid (HX.out.kept hbk)
         have HB := Lib.hid (bthen HB.out hbk)
         have hkk : wk.cell? ⟨w.heap.size, 0, none⟩ = some (.int .i64 now) ∧ wk.cell? ⟨w.heap.size, 1, none⟩ = some (.slice A l.length c) ∧ wk.cell? ⟨w.heap.size + 1, 0, none⟩ = some (.int .i64 t) ∧ wk.cell? ⟨w.heap.size + 1, 1, none⟩ = some (.slice A2 ws.length c2) := ⟨HX.out.1.cell 0, HX.out.1.cell 1, HX.out.2.1.cell 0, HX.out.2.1.cell 1⟩
         clear hbk hoa)
      | (go_at_call 230
         refine (l3Rows_any _ Aa (atL l t) ca A2 ws c2 _ (by omega) (by omega) HO.out HX.out.2.2.2.sl).mono ?_
         rintro e wk ⟨Ar, cr, Br, rfl, hor, hbk⟩
         have HR := Lib.hid hor
         have HX := Lib.hid (HX.out.kept hbk)
         have HB := Lib.hid (bthen HB.out hbk)
         have hkk : wk.cell? ⟨w.heap.size, 0, none⟩ = some (.int .i64 now) ∧ wk.cell? ⟨w.heap.size, 1, none⟩ = some (.slice A l.length c) ∧ wk.cell? ⟨w.heap.size + 1, 0, none⟩ = some (.int .i64 t) ∧ wk.cell? ⟨w.heap.size + 1, 1, none⟩ = some (.slice A2 ws.length c2) := ⟨HX.out.1.cell 0, HX.out.1.cell 1, HX.out.2.1.cell 0, HX.out.2.1.cell 1⟩
         clear hbk hor)
      | (go_at_call 237
         refine (specRowsOk_any Ar (rowsN (atL l t) ws) cr _ (rowsN_size ws _ (atL_size HX.out.2.2.1.2.1) HX.out.2.2.2.2.1.2) (by have := rowsN_len ws (atL l t); omega) HR.out.reads).mono ?_
         rintro e wk ⟨rfl, hbk⟩
         have HX := Lib.hid (HX.out.kept hbk)
         have HB := Lib.hid (bthen HB.out hbk)
         have hkk : wk.cell? ⟨w.heap.size, 0, none⟩ = some (.int .i64 now) ∧ wk.cell? ⟨w.heap.size, 1, none⟩ = some (.slice A l.length c) ∧ wk.cell? ⟨w.heap.size + 1, 0, none⟩ = some (.int .i64 t) ∧ wk.cell? ⟨w.heap.size + 1, 1, none⟩ = some (.slice A2 ws.length c2) := ⟨HX.out.1.cell 0, HX.out.1.cell 1, HX.out.2.1.cell 0, HX.out.2.1.cell 1⟩
         clear hbk))
  all_goals
    go_wp2
    go_ret
    exact ⟨ret_bool HE.out.symm, HB.out⟩
end Go.Proofs.Ytpjkcmmmpgncmaa
