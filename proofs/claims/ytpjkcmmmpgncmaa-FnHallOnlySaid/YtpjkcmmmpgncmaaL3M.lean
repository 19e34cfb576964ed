import Derived.Deep.RegionHeld3
import Derived.Deep.RegionWith
import Derived.BigQuiet
import Derived.Test.YtpjkcmmmpgncmaaM27
import Derived.Test.YtpjkcmmmpgncmaaM26
import Derived.Test.YtpjkcmmmpgncmaaM24
/- The reference on what one did: its rows, one thing more, its end. -/
namespace Go.Proofs.Ytpjkcmmmpgncmaa
open Go.RowKit
theorem kp2 {W : World} {g : Nat} {t : TypeId} {cs : Array Value} (hB : Blk W g t cs) (ht : t ∈ boxT) (u v : Value) : Kp W ((W.setCell ⟨g, 0, none⟩ u).setCell ⟨g, 1, none⟩ v) :=
  ((Kp.refl W).set hB ht u).set (hB.set_ 0 u) ht v
theorem WK.nil (W : World) (A : Option Addr) : WK W A [] := ⟨SlK.nil _ _, ⟨Nat.zero_le _, fun y h => absurd h (by simp)⟩, by simp⟩
noncomputable def workR (now : Int) (l : List Ver) (t : Int) (ws : List Wri) : List Row := if workB now l t ws = true then rowsN (atL l t) ws else []
theorem workB_out {now : Int} {l : List Ver} {t : Int} {ws : List Wri} (h : workB now l t ws = true) : versB now l = true ∧ 0 ≤ t ∧ t ≤ now ∧ wrsB 6 ws = true := by
  unfold workB at h
  simp only [Bool.and_eq_true, decide_eq_true_eq] at h
  exact ⟨h.1, h.2.1, h.2.2.1, h.2.2.2.1⟩
theorem workR_len {now : Int} {l : List Ver} {t : Int} {ws : List Wri} (h1 : l.length ≤ 60) (h2 : ws.length ≤ 8) : (workR now l t ws).length ≤ 70 := by
  unfold workR
  have h3 := rowsN_len ws (atL l t)
  have h4 := atL_le l t
  split
  · omega
  · simp
theorem workR_size {now : Int} {l : List Ver} {t : Int} {ws : List Wri} (hf : FitsV l) (hw : FitsW ws) : ∀ x ∈ workR now l t ws, x.1.size ≤ maxLen := by
  unfold workR
  split
  · exact rowsN_size ws _ (atL_size hf) hw.2
  · intro x hx; simp at hx
set_option maxRecDepth 100000 in
set_option maxHeartbeats 4000000 in
theorem workRows_any (A : Option Addr) (l : List Ver) (c : Nat) (now : Int) (t : Int) (A2 : Option Addr) (ws : List Wri) (c2 : Nat) (w : World) (hV : VK w now A l) (hW : WK w A2 ws) :
    Calls Try.prog 217 #[.agg #[.int .i64 now, .slice A l.length c], .agg #[.int .i64 t, .slice A2 ws.length c2]] w fun e w' => ∃ A' c' B', e = .returned (.slice A' (workR now l t ws).length c') ∧ OwnR w' B' (.slice A' (workR now l t ws).length c') (workR now l t ws) ∧ Below w.heap.size w w' := by
  have hl : l.length ≤ 60 := hV.2.2.1
  have hw8 : ws.length ≤ 8 := hW.2.2
  have HX := Lib.hid (BX2.new (c := c) (t := t) (c2 := c2) hV hW)
  have HB := Lib.hid (bthen (kA w (.cells #[.int .i64 now, .slice A l.length c] 32)) (kA _ (.cells #[.int .i64 t, .slice A2 ws.length c2] 76)))
  have hsz : w.heap.size + 1 < ((w.alloc (.cells #[.int .i64 now, .slice A l.length c] 32)).alloc (.cells #[.int .i64 t, .slice A2 ws.length c2] 76)).heap.size := by simp
  clear hV hW
  go_enter Try.func217, Try.ntmps217
  go_wp2_with fail
  generalize (w.alloc (.cells #[.int .i64 now, .slice A l.length c] 32)).alloc (.cells #[.int .i64 t, .slice A2 ws.length c2] 76) = w0 at *
  refine (workOk_any A l c now t A2 ws c2 w0 HX.out.2.2.1 HX.out.2.2.2).mono ?_
  rintro e w1 ⟨rfl, hb1⟩
  have HX := Lib.hid (HX.out.kept hb1)
  have HB := Lib.hid (bthen HB.out hb1)
  clear hb1 hsz
  have x0 : w1.cell? ⟨w.heap.size, 0, none⟩ = some (.int .i64 now) := HX.out.1.cell 0
  have x1 : w1.cell? ⟨w.heap.size, 1, none⟩ = some (.slice A l.length c) := HX.out.1.cell 1
  have x2 : w1.cell? ⟨w.heap.size + 1, 0, none⟩ = some (.int .i64 t) := HX.out.2.1.cell 0
  have x3 : w1.cell? ⟨w.heap.size + 1, 1, none⟩ = some (.slice A2 ws.length c2) := HX.out.2.1.cell 1
  cases hv : workB now l t ws
  · have HE := Lib.hid (show workR now l t ws = [] by unfold workR; rw [if_neg (by rw [hv]; simp)])
    go_wp2
    go_ret
    rw [HE.out]
    exact ⟨_, _, w1.heap.size, rfl, own_of_blk (n := 0) (k := 2) (xs := []) (Blk.new w1 _ #[]) (Nat.le_refl _) (Nat.zero_le _) rfl rfl, bthen HB.out (kA w1 _)⟩
  have HE := Lib.hid (show workR now l t ws = rowsN (atL l t) ws by unfold workR; rw [if_pos hv])
  clear hv
  have hal : (atL l t).length ≤ 60 := by have := atL_le l t; omega
  go_wp2_with fail
  have HX := Lib.hid (HX.out.kept (kD w1))
  have HB := Lib.hid (bthen HB.out (kD w1))
  go_region_held3 (fun W => W.cell? ⟨w.heap.size, 0, none⟩ = some (.int .i64 now) ∧ W.cell? ⟨w.heap.size, 1, none⟩ = some (.slice A l.length c) ∧ W.cell? ⟨w.heap.size + 1, 0, none⟩ = some (.int .i64 t) ∧ W.cell? ⟨w.heap.size + 1, 1, none⟩ = some (.slice A2 ws.length c2))
    (first | assumption | go_keep)
    (first
      | (go_at_call 60
         refine (l2At_any A l c now t _ (by omega) HX.out.2.2.1.sl).mono ?_
         rintro e wk ⟨va, rfl, hoa, hbk⟩
         obtain ⟨Aa, ca, rfl, _, _, _⟩ := OwnR.sl (l := atL l t) hoa
         have HO := Lib.hid hoa
         have HX := Lib.hid (HX.out.kept hbk)
         have HB := Lib.hid (bthen HB.out hbk)
         have hkk : wk.cell? ⟨w.heap.size, 0, none⟩ = some (.int .i64 now) ∧ wk.cell? ⟨w.heap.size, 1, none⟩ = some (.slice A l.length c) ∧ wk.cell? ⟨w.heap.size + 1, 0, none⟩ = some (.int .i64 t) ∧ wk.cell? ⟨w.heap.size + 1, 1, none⟩ = some (.slice A2 ws.length c2) := ⟨HX.out.1.cell 0, HX.out.1.cell 1, HX.out.2.1.cell 0, HX.out.2.1.cell 1⟩
         clear hbk hoa)
      | (go_at_call 230
         refine (l3Rows_any _ Aa (atL l t) ca A2 ws c2 _ (by omega) (by omega) HO.out HX.out.2.2.2.sl).mono ?_
         rintro e wk ⟨Ar, cr, Br, rfl, hor, hbk⟩
         have HR := Lib.hid hor
         have HX := Lib.hid (HX.out.kept hbk)
         have HB := Lib.hid (bthen HB.out hbk)
         have hkk : wk.cell? ⟨w.heap.size, 0, none⟩ = some (.int .i64 now) ∧ wk.cell? ⟨w.heap.size, 1, none⟩ = some (.slice A l.length c) ∧ wk.cell? ⟨w.heap.size + 1, 0, none⟩ = some (.int .i64 t) ∧ wk.cell? ⟨w.heap.size + 1, 1, none⟩ = some (.slice A2 ws.length c2) := ⟨HX.out.1.cell 0, HX.out.1.cell 1, HX.out.2.1.cell 0, HX.out.2.1.cell 1⟩
         clear hbk hor))
  all_goals
    go_wp2
    go_ret
    rw [HE.out]
    exact ⟨_, _, _, rfl, HR.out, HB.out⟩
/-- the boxes of a store, of what one did, of one thing more, of a result -/
def BX4 (w : World) (now : Int) (A : Option Addr) (l : List Ver) (c : Nat) (t : Int) (A2 : Option Addr) (ws : List Wri) (c2 : Nat) (xk : ByteArray) (xn : Int) (xg : Bool) (W : World) : Prop :=
  BX2 w.heap.size now A l c t A2 ws c2 W ∧ Blk W (w.heap.size + 1 + 1) 46 #[.string xk, .int .i64 xn, .bool xg] ∧ Blk W (w.heap.size + 1 + 1 + 1) 76 #[.int .i64 0, .slice none 0 0] ∧ Below w.heap.size w W
theorem BX4.kept {w : World} {now : Int} {A : Option Addr} {l : List Ver} {c : Nat} {t : Int} {A2 : Option Addr} {ws : List Wri} {c2 : Nat} {xk : ByteArray} {xn : Int} {xg : Bool} {W W' : World} (h : BX4 w now A l c t A2 ws c2 xk xn xg W) (hb : Below W.heap.size W W') : BX4 w now A l c t A2 ws c2 xk xn xg W' :=
  ⟨h.1.kept hb, h.2.1.kept hb, h.2.2.1.kept hb, bthen h.2.2.2 hb⟩
def allocs4 (w : World) (now : Int) (A : Option Addr) (n : Nat) (c : Nat) (t : Int) (A2 : Option Addr) (m : Nat) (c2 : Nat) (xk : ByteArray) (xn : Int) (xg : Bool) : World :=
  (((w.alloc (.cells #[.int .i64 now, .slice A n c] 32)).alloc (.cells #[.int .i64 t, .slice A2 m c2] 76)).alloc (.cells #[.string xk, .int .i64 xn, .bool xg] 46)).alloc (.cells #[.int .i64 0, .slice none 0 0] 76)
theorem BX4.new {w : World} {now : Int} {A : Option Addr} {l : List Ver} {c : Nat} {t : Int} {A2 : Option Addr} {ws : List Wri} {c2 : Nat} {xk : ByteArray} {xn : Int} {xg : Bool} (hV : VK w now A l) (hW : WK w A2 ws) :
    BX4 w now A l c t A2 ws c2 xk xn xg (allocs4 w now A l.length c t A2 ws.length c2 xk xn xg) := by
  unfold allocs4
  have h0 := BX2.new (c := c) (t := t) (c2 := c2) hV hW
  have hb0 := bthen (kA w (.cells #[.int .i64 now, .slice A l.length c] 32)) (kA _ (.cells #[.int .i64 t, .slice A2 ws.length c2] 76))
  have hs0 : ((w.alloc (.cells #[.int .i64 now, .slice A l.length c] 32)).alloc (.cells #[.int .i64 t, .slice A2 ws.length c2] 76)).heap.size = w.heap.size + 1 + 1 := by simp
  generalize (w.alloc (.cells #[.int .i64 now, .slice A l.length c] 32)).alloc (.cells #[.int .i64 t, .slice A2 ws.length c2] 76) = w0 at *
  have h1 := Blk.new w0 46 #[.string xk, .int .i64 xn, .bool xg]
  have h2 := Blk.new (w0.alloc (.cells #[.string xk, .int .i64 xn, .bool xg] 46)) 76 #[.int .i64 0, .slice none 0 0]
  rw [World.size_alloc, hs0] at h2
  rw [hs0] at h1
  exact ⟨(h0.kept (kA _ _)).kept (kA _ _), h1.alloc _, h2, bthen (bthen hb0 (kA _ _)) (kA _ _)⟩
theorem BX4.box {w : World} {now : Int} {A : Option Addr} {l : List Ver} {c : Nat} {t : Int} {A2 : Option Addr} {ws : List Wri} {c2 : Nat} {xk : ByteArray} {xn : Int} {xg : Bool} {W : World} {g : Nat} {cs : Array Value} (h : BX4 w now A l c t A2 ws c2 xk xn xg W) (hN : Blk W g 76 cs) (hg : w.heap.size + 1 + 1 + 1 < g) (u v : Value) : BX4 w now A l c t A2 ws c2 xk xn xg ((W.setCell ⟨g, 0, none⟩ u).setCell ⟨g, 1, none⟩ v) := by
  obtain ⟨⟨h1, h2, h3, h4⟩, h5, h6, h7⟩ := h
  have hk := kp2 hN (by decide) u v
  exact ⟨⟨(h1.far (p := ⟨g, 0, none⟩) (by simp; omega) u).far (p := ⟨g, 1, none⟩) (by simp; omega) v, (h2.far (p := ⟨g, 0, none⟩) (by simp; omega) u).far (p := ⟨g, 1, none⟩) (by simp; omega) v, h3.kp hk, h4.kp hk⟩, (h5.far (p := ⟨g, 0, none⟩) (by simp; omega) u).far (p := ⟨g, 1, none⟩) (by simp; omega) v, (h6.far (p := ⟨g, 0, none⟩) (by simp; omega) u).far (p := ⟨g, 1, none⟩) (by simp; omega) v, (h7.setCell (by simp; omega) u).setCell (by simp; omega) v⟩
/-- how WorkPut leaves -/
def PutPost (w : World) (e : Ending) (w' : World) : Prop :=
  ∃ (t' : Int) (A' : Option Addr) (ws' : List Wri) (c' : Nat) (d : Int), e = .returned (.tuple #[.agg #[.int .i64 t', .slice A' ws'.length c'], .int .i64 d]) ∧ WK w' A' ws' ∧ 0 ≤ d ∧ d ≤ 3 ∧ Below w.heap.size w w'
set_option maxRecDepth 100000 in
set_option maxHeartbeats 8000000 in
theorem workPut_any (A : Option Addr) (l : List Ver) (c : Nat) (now : Int) (t : Int) (A2 : Option Addr) (ws : List Wri) (c2 : Nat) (x : Wri) (w : World) (hV : VK w now A l) (hW : WK w A2 ws) (hxs : x.1.size ≤ maxLen) :
    Calls Try.prog 228 #[.agg #[.int .i64 now, .slice A l.length c], .agg #[.int .i64 t, .slice A2 ws.length c2], .agg #[.string x.1, .int .i64 x.2.1, .bool x.2.2]] w (PutPost w) := by
  obtain ⟨xk, xn, xg⟩ := x
  simp only at hxs ⊢
  have HXS := Lib.hid hxs
  have hl : l.length ≤ 60 := hV.2.2.1
  have hw8 : ws.length ≤ 8 := hW.2.2
  have HX := Lib.hid (BX4.new (c := c) (t := t) (c2 := c2) (xk := xk) (xn := xn) (xg := xg) hV hW)
  have hsz : w.heap.size + 1 + 1 + 1 < (allocs4 w now A l.length c t A2 ws.length c2 xk xn xg).heap.size := by unfold allocs4; simp
  clear hV hW hxs
  go_enter Try.func228, Try.ntmps228
  go_wp2_with fail
  change Calls _ _ _ (allocs4 w now A l.length c t A2 ws.length c2 xk xn xg) _
  generalize allocs4 w now A l.length c t A2 ws.length c2 xk xn xg = w0 at *
  refine (workOk_any A l c now t A2 ws c2 w0 HX.out.1.2.2.1 HX.out.1.2.2.2).mono ?_
  rintro e w1 ⟨rfl, hb1⟩
  have HX := Lib.hid (HX.out.kept hb1)
  clear hb1 hsz
  have x0 : w1.cell? ⟨w.heap.size, 0, none⟩ = some (.int .i64 now) := HX.out.1.1.cell 0
  have x1 : w1.cell? ⟨w.heap.size, 1, none⟩ = some (.slice A l.length c) := HX.out.1.1.cell 1
  have x2 : w1.cell? ⟨w.heap.size + 1, 0, none⟩ = some (.int .i64 t) := HX.out.1.2.1.cell 0
  have x3 : w1.cell? ⟨w.heap.size + 1, 1, none⟩ = some (.slice A2 ws.length c2) := HX.out.1.2.1.cell 1
  have x4 : w1.cell? ⟨w.heap.size + 1 + 1, 0, none⟩ = some (.string xk) := HX.out.2.1.cell 0
  have x5 : w1.cell? ⟨w.heap.size + 1 + 1, 1, none⟩ = some (.int .i64 xn) := HX.out.2.1.cell 1
  have x6 : w1.cell? ⟨w.heap.size + 1 + 1, 2, none⟩ = some (.bool xg) := HX.out.2.1.cell 2
  have hxl := HX.out.2.2.1.lt
  cases hv : workB now l t ws
  · clear x0 x1 x2 x3 x4 x5 x6
    have z0 := HX.out.2.2.1.frozen 0
    have z1 := HX.out.2.2.1.frozen 1
    have y0 : w1.cell? ⟨w.heap.size + 1 + 1 + 1, 0, none⟩ = some (.int .i64 0) := HX.out.2.2.1.cell 0
    have y1 : w1.cell? ⟨w.heap.size + 1 + 1 + 1, 1, none⟩ = some (.slice none 0 0) := HX.out.2.2.1.cell 1
    obtain ⟨q0, q1⟩ := HX.out.2.2.1.two (.int .i64 0) (.slice none 0 0)
    go_wp2
    exact bodyPost_ret (v := .tuple #[.agg #[.int .i64 0, .slice none 0 0], .int .i64 1]) (by simp [results, Try.results228, go_sem, q0, q1]) rfl ⟨0, none, [], 0, 1, rfl, (WK.nil w1 none).kp (kp2 HX.out.2.2.1 (by decide) _ _), by decide, by decide, (HX.out.2.2.2.setCell (by simp <;> omega) _).setCell (by simp <;> omega) _⟩
  have hw6 : ws.length ≤ 6 := (wrsB_iff.1 (workB_out hv).2.2.2).1
  clear hv
  have hba := kA w1 (.cells #[.string xk, .int .i64 xn, .bool xg] 46)
  have HC := Lib.hid (specWritesOk_any (some ⟨w1.heap.size, 0, none⟩) [((xk, xn, xg) : Wri)] 1 (w1.alloc (.cells #[.string xk, .int .i64 xn, .bool xg] 46)) ⟨by simp [maxLen], fun y hy => by simp at hy; subst hy; exact HXS.out⟩ (by simp) (slw_one (x := (xk, xn, xg)) (Blk.new w1 _ _)))
  have HXa := Lib.hid (HX.out.kept hba)
  clear hba
  go_wp2_with fail
  refine HC.out.mono ?_
  rintro e w2 ⟨rfl, hb2⟩
  have HX := Lib.hid (HXa.out.kept hb2)
  clear HC HXa hb2 x0 x1 x2 x3 x4 x5 x6 hxl
  have x0 : w2.cell? ⟨w.heap.size, 0, none⟩ = some (.int .i64 now) := HX.out.1.1.cell 0
  have x1 : w2.cell? ⟨w.heap.size, 1, none⟩ = some (.slice A l.length c) := HX.out.1.1.cell 1
  have x2 : w2.cell? ⟨w.heap.size + 1, 0, none⟩ = some (.int .i64 t) := HX.out.1.2.1.cell 0
  have x3 : w2.cell? ⟨w.heap.size + 1, 1, none⟩ = some (.slice A2 ws.length c2) := HX.out.1.2.1.cell 1
  have x4 : w2.cell? ⟨w.heap.size + 1 + 1, 0, none⟩ = some (.string xk) := HX.out.2.1.cell 0
  have x5 : w2.cell? ⟨w.heap.size + 1 + 1, 1, none⟩ = some (.int .i64 xn) := HX.out.2.1.cell 1
  have x6 : w2.cell? ⟨w.heap.size + 1 + 1, 2, none⟩ = some (.bool xg) := HX.out.2.1.cell 2
  have hxl := HX.out.2.2.1.lt
  cases hw : wrsB 6 [((xk, xn, xg) : Wri)]
  · clear hw
    go_wp2_with fail
    refine (l3Copy_any A2 ws c2 t _ (by omega) HX.out.1.2.2.2.sl).mono ?_
    rintro e w9 ⟨v9, rfl, ho9, hb9⟩
    obtain ⟨A9, c9, rfl, _, _, _⟩ := ho9.sl
    have HX := Lib.hid (HX.out.kept hb9)
    have HW9 := Lib.hid (WK.of ho9 HX.out.1.2.2.2.2.1 HX.out.1.2.2.2.2.2)
    clear ho9 hb9
    have z0 := HX.out.2.2.1.frozen 0
    have z1 := HX.out.2.2.1.frozen 1
    have y0 : w9.cell? ⟨w.heap.size + 1 + 1 + 1, 0, none⟩ = some (.int .i64 0) := HX.out.2.2.1.cell 0
    have y1 : w9.cell? ⟨w.heap.size + 1 + 1 + 1, 1, none⟩ = some (.slice none 0 0) := HX.out.2.2.1.cell 1
    obtain ⟨q0, q1⟩ := HX.out.2.2.1.two (.int .i64 t) (.slice A9 ws.length c9)
    go_wp2
    exact bodyPost_ret (v := .tuple #[.agg #[.int .i64 t, .slice A9 ws.length c9], .int .i64 1]) (by simp [results, Try.results228, go_sem, q0, q1]) rfl ⟨t, A9, ws, c9, 1, rfl, (HW9.out).kp (kp2 HX.out.2.2.1 (by decide) _ _), by decide, by decide, (HX.out.2.2.2.setCell (by simp <;> omega) _).setCell (by simp <;> omega) _⟩
  clear hw
  go_wp2_with fail
  refine wp_region_below (by kernel_rfl) (by kernel_rfl) ?_
  iterate 7 (refine wpQuiet_step (fun K hK => ?_); go_simp; first | (apply Exists.intro; refine ⟨fun W hW => ?_, hK _ ?_⟩; (first | rfl | (go_at_call 235; exact quiet_call hW (Nat.le_refl _) (l2Last_any A l c now xk W (by omega) (HX.out.kept hW).1.2.2.1.sl)) | (have X0 := (hW.cell (p := ⟨w.heap.size, 0, none⟩) (show w.heap.size < w2.heap.size by omega)).trans x0; have X1 := (hW.cell (p := ⟨w.heap.size, 1, none⟩) (show w.heap.size < w2.heap.size by omega)).trans x1; have X2 := (hW.cell (p := ⟨w.heap.size + 1, 0, none⟩) (show w.heap.size + 1 < w2.heap.size by omega)).trans x2; have X4 := (hW.cell (p := ⟨w.heap.size + 1 + 1, 0, none⟩) (show w.heap.size + 1 + 1 < w2.heap.size by omega)).trans x4; go_simp; rfl)); clear hK K) | (refine hK _ ?_; clear hK K))
  refine wpQuiet_nil ?_
  intro W hW
  have HX := Lib.hid (HX.out.kept hW)
  clear hW x0 x1 x2 x3 x4 x5 x6 hxl
  generalize W = w3 at *
  have x0 : w3.cell? ⟨w.heap.size, 0, none⟩ = some (.int .i64 now) := HX.out.1.1.cell 0
  have x1 : w3.cell? ⟨w.heap.size, 1, none⟩ = some (.slice A l.length c) := HX.out.1.1.cell 1
  have x2 : w3.cell? ⟨w.heap.size + 1, 0, none⟩ = some (.int .i64 t) := HX.out.1.2.1.cell 0
  have x3 : w3.cell? ⟨w.heap.size + 1, 1, none⟩ = some (.slice A2 ws.length c2) := HX.out.1.2.1.cell 1
  have x4 : w3.cell? ⟨w.heap.size + 1 + 1, 0, none⟩ = some (.string xk) := HX.out.2.1.cell 0
  have x5 : w3.cell? ⟨w.heap.size + 1 + 1, 1, none⟩ = some (.int .i64 xn) := HX.out.2.1.cell 1
  have x6 : w3.cell? ⟨w.heap.size + 1 + 1, 2, none⟩ = some (.bool xg) := HX.out.2.1.cell 2
  have hxl := HX.out.2.2.1.lt
  by_cases hlt : t < lastN l xk
  case pos =>
    have dl : decide (t < lastN l xk) = true := decide_eq_true hlt
    go_wp2_with fail
    refine (l3Copy_any A2 ws c2 t _ (by omega) HX.out.1.2.2.2.sl).mono ?_
    rintro e w9 ⟨v9, rfl, ho9, hb9⟩
    obtain ⟨A9, c9, rfl, _, _, _⟩ := ho9.sl
    have HX := Lib.hid (HX.out.kept hb9)
    have HW9 := Lib.hid (WK.of ho9 HX.out.1.2.2.2.2.1 HX.out.1.2.2.2.2.2)
    clear ho9 hb9
    have z0 := HX.out.2.2.1.frozen 0
    have z1 := HX.out.2.2.1.frozen 1
    have y0 : w9.cell? ⟨w.heap.size + 1 + 1 + 1, 0, none⟩ = some (.int .i64 0) := HX.out.2.2.1.cell 0
    have y1 : w9.cell? ⟨w.heap.size + 1 + 1 + 1, 1, none⟩ = some (.slice none 0 0) := HX.out.2.2.1.cell 1
    obtain ⟨q0, q1⟩ := HX.out.2.2.1.two (.int .i64 t) (.slice A9 ws.length c9)
    go_wp2
    exact bodyPost_ret (v := .tuple #[.agg #[.int .i64 t, .slice A9 ws.length c9], .int .i64 2]) (by simp [results, Try.results228, go_sem, q0, q1]) rfl ⟨t, A9, ws, c9, 2, rfl, (HW9.out).kp (kp2 HX.out.2.2.1 (by decide) _ _), by decide, by decide, (HX.out.2.2.2.setCell (by simp <;> omega) _).setCell (by simp <;> omega) _⟩
  have dl : decide (t < lastN l xk) = false := decide_eq_false hlt
  go_wp2_with fail
  have HX := Lib.hid (HX.out.kept (kD w3))
  have ne1 : w3.heap.size ≠ w.heap.size + 1 := by omega
  have ne2 : w3.heap.size ≠ w.heap.size + 1 + 1 := by omega
  have ne3 : w.heap.size + 1 ≠ w3.heap.size := by omega
  have ne4 : w.heap.size + 1 + 1 ≠ w3.heap.size := by omega
  clear hlt dl x0 x1
  go_region_held3 (fun W => W.cell? ⟨w.heap.size + 1, 0, none⟩ = some (.int .i64 t) ∧ W.cell? ⟨w.heap.size + 1, 1, none⟩ = some (.slice A2 ws.length c2) ∧ W.cell? ⟨w.heap.size + 1 + 1, 0, none⟩ = some (.string xk) ∧ W.cell? ⟨w.heap.size + 1 + 1, 1, none⟩ = some (.int .i64 xn) ∧ W.cell? ⟨w.heap.size + 1 + 1, 2, none⟩ = some (.bool xg))
    (first | assumption | go_keep)
    (first
      | (go_at_call 236
         refine (l3Put_any A2 ws c2 (xk, xn, xg) w3.drew (by omega) HX.out.1.2.2.2.2.1.2 HXS.out HX.out.1.2.2.2.sl).mono ?_
         rintro e wk ⟨A7, c7, L, rfl, ho7, hl7, hf7, hbk⟩
         have HX := Lib.hid (HX.out.kept hbk)
         have HL := Lib.hid (⟨hl7, WK.of ho7 ⟨by unfold maxLen; omega, hf7⟩ (by omega)⟩ : _ ∧ _)
         have hkk : wk.cell? ⟨w.heap.size + 1, 0, none⟩ = some (.int .i64 t) ∧ wk.cell? ⟨w.heap.size + 1, 1, none⟩ = some (.slice A2 ws.length c2) ∧ wk.cell? ⟨w.heap.size + 1 + 1, 0, none⟩ = some (.string xk) ∧ wk.cell? ⟨w.heap.size + 1 + 1, 1, none⟩ = some (.int .i64 xn) ∧ wk.cell? ⟨w.heap.size + 1 + 1, 2, none⟩ = some (.bool xg) := ⟨HX.out.1.2.1.cell 0, HX.out.1.2.1.cell 1, HX.out.2.1.cell 0, HX.out.2.1.cell 1, HX.out.2.1.cell 2⟩
         clear hbk ho7 hl7 hf7)
      | (go_at_call 236
         have HX := Lib.hid (HX.out.kept (kA w3.drew (.cells #[.int .i64 0, .slice none 0 0] 76)))
         refine (l3Put_any A2 ws c2 (xk, xn, xg) (w3.drew.alloc (.cells #[.int .i64 0, .slice none 0 0] 76)) (by omega) HX.out.1.2.2.2.2.1.2 HXS.out HX.out.1.2.2.2.sl).mono ?_
         rintro e wk ⟨A7, c7, L, rfl, ho7, hl7, hf7, hbk⟩
         have HN : Hid (Blk wk w3.heap.size 76 #[.int .i64 0, .slice none 0 0]) := Lib.hid ((Blk.new w3.drew 76 #[.int .i64 0, .slice none 0 0]).kept hbk)
         have n0 := HN.out.frozen 0
         have n1 := HN.out.frozen 1
         have n2 : wk.cell? ⟨w3.heap.size, 0, none⟩ = some (.int .i64 0) := HN.out.cell 0
         have n3 : wk.cell? ⟨w3.heap.size, 1, none⟩ = some (.slice none 0 0) := HN.out.cell 1
         have HX := Lib.hid (HX.out.kept hbk)
         have HL := Lib.hid (⟨hl7, WK.of ho7 ⟨by unfold maxLen; omega, hf7⟩ (by omega)⟩ : _ ∧ _)
         have hkk : wk.cell? ⟨w.heap.size + 1, 0, none⟩ = some (.int .i64 t) ∧ wk.cell? ⟨w.heap.size + 1, 1, none⟩ = some (.slice A2 ws.length c2) ∧ wk.cell? ⟨w.heap.size + 1 + 1, 0, none⟩ = some (.string xk) ∧ wk.cell? ⟨w.heap.size + 1 + 1, 1, none⟩ = some (.int .i64 xn) ∧ wk.cell? ⟨w.heap.size + 1 + 1, 2, none⟩ = some (.bool xg) := ⟨HX.out.1.2.1.cell 0, HX.out.1.2.1.cell 1, HX.out.2.1.cell 0, HX.out.2.1.cell 1, HX.out.2.1.cell 2⟩
         clear hbk ho7 hl7 hf7))
  all_goals
    clear x2 x3 x4 x5 x6
    first
      | (have HBX := Lib.hid (show BX4 w now A l c t A2 ws c2 xk xn xg ((wk.setCell ⟨w3.heap.size, 0, none⟩ (.int .i64 t)).setCell ⟨w3.heap.size, 1, none⟩ (.slice A7 L.length c7)) ∧ Blk ((wk.setCell ⟨w3.heap.size, 0, none⟩ (.int .i64 t)).setCell ⟨w3.heap.size, 1, none⟩ (.slice A7 L.length c7)) w3.heap.size 76 #[.int .i64 t, .slice A7 L.length c7] ∧ WK ((wk.setCell ⟨w3.heap.size, 0, none⟩ (.int .i64 t)).setCell ⟨w3.heap.size, 1, none⟩ (.slice A7 L.length c7)) A7 L from ⟨HX.out.box HN.out hxl _ _, (HN.out.set_ 0 _).set_ 1 _, HL.out.2.kp (kp2 HN.out (by decide) _ _)⟩)
         clear HX HN n0 n1 n2 n3 hkk
         generalize (wk.setCell ⟨w3.heap.size, 0, none⟩ (.int .i64 t)).setCell ⟨w3.heap.size, 1, none⟩ (.slice A7 L.length c7) = w7 at *
         generalize w3.heap.size = g7 at *)
      | (have HBX := Lib.hid (show BX4 w now A l c t A2 ws c2 xk xn xg (wk.alloc (.cells #[.int .i64 t, .slice A7 L.length c7] 76)) ∧ Blk (wk.alloc (.cells #[.int .i64 t, .slice A7 L.length c7] 76)) wk.heap.size 76 #[.int .i64 t, .slice A7 L.length c7] ∧ WK (wk.alloc (.cells #[.int .i64 t, .slice A7 L.length c7] 76)) A7 L from ⟨HX.out.kept (kA _ _), Blk.new _ _ _, HL.out.2.kp (Kp.below (kA _ _))⟩)
         clear HX hkk
         generalize wk.alloc (.cells #[.int .i64 t, .slice A7 L.length c7] 76) = w7 at *
         generalize wk.heap.size = g7 at *)
    have hl7 : L.length ≤ 7 := by have := HL.out.1; omega
    have HX := Lib.hid HBX.out.1
    have HG := Lib.hid HBX.out.2
    clear HBX HL
    have v0 : w7.cell? ⟨g7, 0, none⟩ = some (.int .i64 t) := HG.out.1.cell 0
    have v1 : w7.cell? ⟨g7, 1, none⟩ = some (.slice A7 L.length c7) := HG.out.1.cell 1
    have x0 : w7.cell? ⟨w.heap.size, 0, none⟩ = some (.int .i64 now) := HX.out.1.1.cell 0
    have x1 : w7.cell? ⟨w.heap.size, 1, none⟩ = some (.slice A l.length c) := HX.out.1.1.cell 1
    go_wp2_with fail
    refine (workOk_any A l c now t A7 L c7 _ HX.out.1.2.2.1 HG.out.2).mono ?_
    rintro e w8 ⟨rfl, hb8⟩
    have HX := Lib.hid (HX.out.kept hb8)
    have HG := Lib.hid (show Blk w8 g7 76 #[.int .i64 t, .slice A7 L.length c7] ∧ WK w8 A7 L from ⟨HG.out.1.kept hb8, HG.out.2.kp (Kp.below hb8)⟩)
    clear hb8 v0 v1 x0 x1 hxl
    cases hv7 : workB now l t L
    · clear hv7
      have x0 : w8.cell? ⟨w.heap.size, 0, none⟩ = some (.int .i64 now) := HX.out.1.1.cell 0
      have x1 : w8.cell? ⟨w.heap.size, 1, none⟩ = some (.slice A l.length c) := HX.out.1.1.cell 1
      have x2 : w8.cell? ⟨w.heap.size + 1, 0, none⟩ = some (.int .i64 t) := HX.out.1.2.1.cell 0
      have x3 : w8.cell? ⟨w.heap.size + 1, 1, none⟩ = some (.slice A2 ws.length c2) := HX.out.1.2.1.cell 1
      have x4 : w8.cell? ⟨w.heap.size + 1 + 1, 0, none⟩ = some (.string xk) := HX.out.2.1.cell 0
      have x5 : w8.cell? ⟨w.heap.size + 1 + 1, 1, none⟩ = some (.int .i64 xn) := HX.out.2.1.cell 1
      have x6 : w8.cell? ⟨w.heap.size + 1 + 1, 2, none⟩ = some (.bool xg) := HX.out.2.1.cell 2
      have hxl := HX.out.2.2.1.lt
      go_wp2_with fail
      refine (l3Copy_any A2 ws c2 t _ (by omega) HX.out.1.2.2.2.sl).mono ?_
      rintro e w9 ⟨v9, rfl, ho9, hb9⟩
      obtain ⟨A9, c9, rfl, _, _, _⟩ := ho9.sl
      have HX := Lib.hid (HX.out.kept hb9)
      have HW9 := Lib.hid (WK.of ho9 HX.out.1.2.2.2.2.1 HX.out.1.2.2.2.2.2)
      clear ho9 hb9
      have z0 := HX.out.2.2.1.frozen 0
      have z1 := HX.out.2.2.1.frozen 1
      have y0 : w9.cell? ⟨w.heap.size + 1 + 1 + 1, 0, none⟩ = some (.int .i64 0) := HX.out.2.2.1.cell 0
      have y1 : w9.cell? ⟨w.heap.size + 1 + 1 + 1, 1, none⟩ = some (.slice none 0 0) := HX.out.2.2.1.cell 1
      obtain ⟨q0, q1⟩ := HX.out.2.2.1.two (.int .i64 t) (.slice A9 ws.length c9)
      go_wp2
      exact bodyPost_ret (v := .tuple #[.agg #[.int .i64 t, .slice A9 ws.length c9], .int .i64 3]) (by simp [results, Try.results228, go_sem, q0, q1]) rfl ⟨t, A9, ws, c9, 3, rfl, (HW9.out).kp (kp2 HX.out.2.2.1 (by decide) _ _), by decide, by decide, (HX.out.2.2.2.setCell (by simp <;> omega) _).setCell (by simp <;> omega) _⟩
    · clear hv7
      have v0 : w8.cell? ⟨g7, 0, none⟩ = some (.int .i64 t) := HG.out.1.cell 0
      have v1 : w8.cell? ⟨g7, 1, none⟩ = some (.slice A7 L.length c7) := HG.out.1.cell 1
      have z0 := HX.out.2.2.1.frozen 0
      have z1 := HX.out.2.2.1.frozen 1
      have y0 : w8.cell? ⟨w.heap.size + 1 + 1 + 1, 0, none⟩ = some (.int .i64 0) := HX.out.2.2.1.cell 0
      have y1 : w8.cell? ⟨w.heap.size + 1 + 1 + 1, 1, none⟩ = some (.slice none 0 0) := HX.out.2.2.1.cell 1
      obtain ⟨q0, q1⟩ := HX.out.2.2.1.two (.int .i64 t) (.slice A7 L.length c7)
      go_wp2
      exact bodyPost_ret (v := .tuple #[.agg #[.int .i64 t, .slice A7 L.length c7], .int .i64 0]) (by simp [results, Try.results228, go_sem, q0, q1]) rfl ⟨t, A7, L, c7, 0, rfl, (HG.out.2).kp (kp2 HX.out.2.2.1 (by decide) _ _), by decide, by decide, (HX.out.2.2.2.setCell (by simp <;> omega) _).setCell (by simp <;> omega) _⟩
end Go.Proofs.Ytpjkcmmmpgncmaa
