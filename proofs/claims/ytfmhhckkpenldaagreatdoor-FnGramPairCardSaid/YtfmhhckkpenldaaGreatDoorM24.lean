import Derived.BigQuiet
import Derived.Deep.RegionLaw
import Derived.Test.YtfmhhckkpenldaaGreatDoorM14
import Derived.Deep.RegionHeld3
import Derived.Test.YtfmhhckkpenldaaGreatDoorM21
import Derived.Test.YtfmhhckkpenldaaGreatDoorM18
import Derived.Test.YtfmhhckkpenldaaGreatDoorM11
import Derived.Test.YtfmhhckkpenldaaGreatDoorM10
/- The reference on what one did: the last time of a key, a copy. -/
namespace Go.Proofs.YtfmhhckkpenldaaGreatDoor
open Go.RowKit
def mx (a b : Int) : Int := if b < a then a else b
set_option maxRecDepth 100000 in
theorem l1Max_all (a b : Int) (w : World) :
    Calls Tryz.prog 122 #[.int .i64 a, .int .i64 b] w fun e w' => e = .returned (.int .i64 (mx a b)) ∧ Below w.heap.size w w' := by
  by_cases h : b < a
  · have d : decide (b < a) = true := decide_eq_true h
    go_enter Tryz.func122, Tryz.ntmps122
    go_wp2
    go_ret
    exact ⟨ret_int (by unfold mx; rw [if_pos h]), Below.refl _ _⟩
  · have d : decide (b < a) = false := decide_eq_false h
    go_enter Tryz.func122, Tryz.ntmps122
    go_wp2
    go_ret
    exact ⟨ret_int (by unfold mx; rw [if_neg (by omega)]), Below.refl _ _⟩
def lastF (K : ByteArray) (n : Int) (x : Ver) : Int := if (x.1.toList == K.toList) = true then mx n (mx x.2.2.1 x.2.2.2) else n
def lastN (l : List Ver) (K : ByteArray) : Int := l.foldl (lastF K) 0
theorem lastN_take {l : List Ver} {K : ByteArray} {k : Nat} (hk : k < l.length) : lastN (l.take (k + 1)) K = lastF K (lastN (l.take k) K) l[k] := by
  unfold lastN; rw [List.take_succ_eq_append_getElem hk, List.foldl_append]; rfl
set_option maxRecDepth 100000 in
set_option maxHeartbeats 2000000 in
theorem l2Last_any (A : Option Addr) (l : List Ver) (c : Nat) (now : Int) (K : ByteArray) (w : World) (hn : l.length ≤ 1048576) (hS : Sl encVer 4 w A l) :
    Calls Tryz.prog 102 #[.agg #[.int .i64 now, .slice A l.length c], .string K] w fun e w' => e = .returned (.int .i64 (lastN l K)) ∧ Below w.heap.size w w' := by
  have H0 := Lib.hid (Blk.new w 36 #[.int .i64 now, .slice A l.length c])
  have H1 := Lib.hid ((Below.refl w.heap.size w).alloc (Nat.le_refl _) (.cells #[.int .i64 now, .slice A l.length c] 36))
  go_enter Tryz.func102, Tryz.ntmps102
  go_wp2
  go_loopw [5, 6] (fun v i wr => ∃ k : Nat, k ≤ l.length ∧ i = .int .i64 k ∧ v = .int .i64 (lastN (l.take k) K) ∧ Hid (Blk wr w.heap.size 36 #[.int .i64 now, .slice A l.length c]) ∧ Hid (Below w.heap.size w wr)) (fun _ i _ => l.length - (intOf i).toNat)
  case atStart => exact ⟨0, by omega, rfl, rfl, H0, H1⟩
  case round =>
    clear H0 H1
    obtain ⟨k, hk, rfl, rfl, HB, HW⟩ := hrel
    have x1 : wr.cell? ⟨w.heap.size, 1, none⟩ = some (.slice A l.length c) := HB.out.cell 1
    have hxl := HB.out.lt
    by_cases hlt : k < l.length
    · obtain ⟨b, o, rfl, hbl, c0, c1, c2, c3⟩ := Sl.at4 (hS.below HW.out) hlt
      have HT := Lib.hid (lastN_take (K := K) hlt)
      generalize lastN (l.take k) K = n at *
      generalize l[k] = x at *
      obtain ⟨kk, m, fr, tv⟩ := x
      simp only at c0 c1 c2 c3
      have hki : (k : Int) < (l.length : Int) := by omega
      have hki0 : (0 : Int) ≤ (k : Int) := by omega
      clear c1 hS
      cases hq : (kk.toList == K.toList)
      · have HE := Lib.hid (show lastF K n (kk, m, fr, tv) = n by unfold lastF; rw [if_neg (by simp only; rw [hq]; simp)])
        go_wp2
        go_roundw
        case rel => exact ⟨k + 1, by omega, by go_num, by rw [HT.out, HE.out], HB, HW⟩
        case measure => simp [intOf]; omega
      · have HE := Lib.hid (show lastF K n (kk, m, fr, tv) = mx n (mx fr tv) by unfold lastF; rw [if_pos (by simp only; exact hq)])
        go_wp2_with fail
        refine wp_region_below (by kernel_rfl) (by kernel_rfl) ?_
        iterate 16 (refine wpQuiet_step (fun K hK => ?_); go_simp; first | (apply Exists.intro; refine ⟨fun W hW => ?_, hK _ ?_⟩; (first | rfl | (go_at_call 122; exact quiet_call hW (Nat.le_refl _) (l1Max_all _ _ W)) | (have y1 := (hW.cell (p := ⟨w.heap.size, 1, none⟩) hxl).trans x1; have y2 := (hW.cell (p := ⟨b, o + k * 4 + 2, none⟩) hbl).trans c2; have y3 := (hW.cell (p := ⟨b, o + k * 4 + 3, none⟩) hbl).trans c3; go_simp; rfl)); clear hK K) | (refine hK _ ?_; clear hK K))
        refine wpQuiet_nil ?_
        intro W hW
        have HB := Lib.hid (HB.out.kept hW)
        have HW := Lib.hid (bthen HW.out hW)
        clear hW x1 c0 c2 c3 hbl hxl hq
        go_wp2
        go_roundw
        case rel => exact ⟨k + 1, by omega, by go_num, by rw [HT.out, HE.out], HB, HW⟩
        case measure => simp [intOf]; omega
    · obtain rfl : k = l.length := by omega
      rw [List.take_length] at *
      go_wp2
      go_ret
      exact ⟨rfl, HW.out⟩
set_option maxRecDepth 100000 in
set_option maxHeartbeats 1000000 in
theorem l3Copy_any (A : Option Addr) (l : List Wri) (c : Nat) (now : Int) (w : World) (hn : l.length ≤ 1048576) (hR : Sl encWri 3 w A l) :
    Calls Tryz.prog 62 #[.agg #[.int .i64 now, .slice A l.length c]] w fun e w' => ∃ v, e = .returned (.agg #[.int .i64 now, v]) ∧ OwnW w' w.heap.size v l ∧ Below w.heap.size w w' := by
  obtain ⟨i0, hi, hz0, hz1, hz2⟩ := info_parts infoWri
  have HI := Lib.hid (⟨hi, hz0, hz1, hz2⟩ : _ ∧ _ ∧ _ ∧ _)
  clear hi hz0 hz1 hz2
  have hb0 := ((Below.refl w.heap.size w).alloc (Nat.le_refl _) (.cells #[.int .i64 now, .slice A l.length c] 39)).alloc (by simp) (.cells #[.int .i64 0, .slice none 0 0] 39)
  have hB1 := (Blk.new w 39 #[.int .i64 now, .slice A l.length c]).alloc (.cells #[.int .i64 0, .slice none 0 0] 39)
  have hB2 := Blk.new (w.alloc (.cells #[.int .i64 now, .slice A l.length c] 39)) 39 #[.int .i64 0, .slice none 0 0]
  have hsz : ((w.alloc (.cells #[.int .i64 now, .slice A l.length c] 39)).alloc (.cells #[.int .i64 0, .slice none 0 0] 39)).heap.size = w.heap.size + 2 := by simp
  rw [World.size_alloc] at hB2
  go_enter Tryz.func62, Tryz.ntmps62
  go_wp2_with fail
  generalize (w.alloc (.cells #[.int .i64 now, .slice A l.length c] 39)).alloc (.cells #[.int .i64 0, .slice none 0 0] 39) = w0 at *
  have x0 : w0.cell? ⟨w.heap.size, 0, none⟩ = some (.int .i64 now) := hB1.cell 0
  have x1 : w0.cell? ⟨w.heap.size, 1, none⟩ = some (.slice A l.length c) := hB1.cell 1
  have hbn := (Below.refl w0.heap.size w0).alloc (Nat.le_refl _) (.cells #[] 79)
  have ho := (own_of_blk (base := w0.heap.size) (n := 0) (k := 3) (xs := []) (Blk.new w0 79 #[]) (Nat.le_refl _) (Nat.zero_le _) rfl rfl)
  rw [hsz] at ho
  have HO := Lib.hid ho
  have HS := Lib.hid ((hR.below hb0).below hbn)
  have HB0 := Lib.hid hb0
  have HB2 := Lib.hid (hB2.kept hbn)
  have HB1 := Lib.hid (hB1.kept hbn)
  have HBn := Lib.hid hbn
  have hl1 : w.heap.size < w0.heap.size := by omega
  have hl2 : w.heap.size + 1 < w0.heap.size := by omega
  clear hb0 hB1 hB2 hbn hR ho
  have H63 := Lib.hid (show 0 + l.length ≤ maxLen by unfold maxLen; omega)
  have HBY := Lib.hid (show (0 + l.length) * 32 ≤ 140737488355328 by omega)
  have HBS := Lib.hid (show w.heap.size + 2 ≤ ((w0.alloc (.cells #[] 79)).drew).heap.size by simp; omega)
  have HO' := Lib.hid (show ((w0.alloc (.cells #[] 79)).drew).ownsRow (w.heap.size + 2) 79 3 (.slice (some ⟨w.heap.size + 2, 0, none⟩) 0 0) 0 [] from HO.out)
  have HS' := Lib.hid (show Sl encWri 3 ((w0.alloc (.cells #[] 79)).drew) A l from HS.out)
  have HB2' := Lib.hid (show Blk ((w0.alloc (.cells #[] 79)).drew) (w.heap.size + 1) 39 #[.int .i64 0, .slice none 0 0] from HB2.out)
  have HB1' := Lib.hid (show Blk ((w0.alloc (.cells #[] 79)).drew) w.heap.size 39 #[.int .i64 now, .slice A l.length c] from HB1.out)
  have HNE1 := Lib.hid (show some w.heap.size ≠ (Value.slice (some ⟨w.heap.size + 2, 0, none⟩) 0 0).ownBlock by simp [Value.ownBlock])
  have HNE := Lib.hid (show some (w.heap.size + 1) ≠ (Value.slice (some ⟨w.heap.size + 2, 0, none⟩) 0 0).ownBlock by simp [Value.ownBlock])
  go_region_law (refine step_append_sl (enc := encWri) rfl (.tmp 5) (.tmp 7) 37 rfl (w.heap.size + 2) 79 i0 (.agg #[.string ⟨#[]⟩, .int .i64 0, .bool false]) 3 32 Tryz.underlying37 HI.out.1 HI.out.2.1 HI.out.2.2.1 HI.out.2.2.2 rfl (by decide) (.slice (some ⟨w.heap.size + 2, 0, none⟩) 0 0) 0 [] (by simp [Act.eval]) HO'.out encWri_len A l c (by simp [Act.eval]) HS'.out (encWri_one l) H63.out HBY.out HBS.out ?_; intro v' w' hown hgrow; have ho : OwnW w' (w.heap.size + 2) v' l := ownW_of hown; obtain ⟨A', c', rfl, _, _, hS'⟩ := ho.sl; have HOW := Lib.hid ho; have HG := Lib.hid hgrow; have hB := HB2'.out.grown hgrow HNE.out; have y2 : w'.cell? ⟨w.heap.size, 0, none⟩ = some (.int .i64 now) := (HB1'.out.grown hgrow HNE1.out).cell 0; have y0 : w'.cell? ⟨w.heap.size + 1, 0, none⟩ = some (.int .i64 0) := hB.cell 0; have y1 : w'.cell? ⟨w.heap.size + 1, 1, none⟩ = some (.slice none 0 0) := hB.cell 1; have z0 := hB.frozen 0; have z1 := hB.frozen 1; have HBB := Lib.hid hB; clear hown hgrow hS' ho hB)
  all_goals
    have hbf : Below w.heap.size w w' := by
      have h1 := HB0.out.trans (HBn.out.mono (by omega))
      have h2 := h1.drew
      exact below_own h2 HG.out (by simp; omega) (fun k hk => by simp [Value.ownBlock] at hk; omega)
    have HOW2 := Lib.hid (own_set (own_set HOW.out (p := ⟨w.heap.size + 1, 0, none⟩) (by simp) (.int .i64 now)) (p := ⟨w.heap.size + 1, 1, none⟩) (by simp) (.slice A' l.length c'))
    obtain ⟨q0, q1⟩ := HBB.out.two (.int .i64 now) (.slice A' l.length c')
    go_wp2
    refine bodyPost_ret (v := .agg #[.int .i64 now, .slice A' l.length c']) (by simp [results, Tryz.results62, go_sem, q0, q1]) rfl ⟨_, rfl, Go.Joins.ownsRow_le HOW2.out (by omega), (hbf.setCell (by simp) _).setCell (by simp) _⟩
end Go.Proofs.YtfmhhckkpenldaaGreatDoor
/- The reference on what one did: new, right, its rows. -/
namespace Go.Proofs.YtfmhhckkpenldaaGreatDoor
open Go.RowKit
set_option maxRecDepth 100000 in
set_option maxHeartbeats 2000000 in
theorem workNew_any (A : Option Addr) (l : List Ver) (c : Nat) (now : Int) (w : World) (hV : VK w now A l) :
    Calls Tryz.prog 81 #[.agg #[.int .i64 now, .slice A l.length c]] w fun e w' => ∃ (t : Int) (A' : Option Addr), e = .returned (.agg #[.int .i64 t, .slice A' 0 0]) ∧ Below w.heap.size w w' := by
  have hb0 := ((Below.refl w.heap.size w).alloc (Nat.le_refl _) (.cells #[.int .i64 now, .slice A l.length c] 36)).alloc (by simp) (.cells #[.int .i64 0, .slice none 0 0] 39)
  have hB1 := (Blk.new w 36 #[.int .i64 now, .slice A l.length c]).alloc (.cells #[.int .i64 0, .slice none 0 0] 39)
  have hB2 := Blk.new (w.alloc (.cells #[.int .i64 now, .slice A l.length c] 36)) 39 #[.int .i64 0, .slice none 0 0]
  rw [World.size_alloc] at hB2
  go_enter Tryz.func81, Tryz.ntmps81
  go_wp2_with fail
  generalize (w.alloc (.cells #[.int .i64 now, .slice A l.length c] 36)).alloc (.cells #[.int .i64 0, .slice none 0 0] 39) = w0 at *
  refine (specVersOk_any A l c now w0 hV.2.1 (by have := hV.2.2.1; omega) (hV.sl.below hb0)).mono ?_
  rintro e w1 ⟨rfl, hb1⟩
  have hbw1 := bthen hb0 hb1
  cases hv : versB now l
  · have hB21 := hB2.kept hb1
    have z0 := hB21.frozen 0
    have z1 := hB21.frozen 1
    have x0 : w1.cell? ⟨w.heap.size + 1, 0, none⟩ = some (.int .i64 0) := hB21.cell 0
    have x1 : w1.cell? ⟨w.heap.size + 1, 1, none⟩ = some (.slice none 0 0) := hB21.cell 1
    obtain ⟨q0, q1⟩ := hB21.two (.int .i64 0) (.slice none 0 0)
    go_wp2
    refine bodyPost_ret (v := .agg #[.int .i64 0, .slice none 0 0]) (by simp [results, Tryz.results81, go_sem, q0, q1]) rfl ⟨_, _, rfl, (hbw1.setCell (by simp) _).setCell (by simp) _⟩
  · have hba := kA w1 (.cells #[] 79)
    have hB21 := (hB2.kept hb1).kept hba
    have hB11 := hB1.kept hb1
    have hl1 := hB11.lt
    have z0 := hB21.frozen 0
    have z1 := hB21.frozen 1
    have r0 : w1.cell? ⟨w.heap.size, 0, none⟩ = some (.int .i64 now) := hB11.cell 0
    have x0 : (w1.alloc (.cells #[] 79)).cell? ⟨w.heap.size + 1, 0, none⟩ = some (.int .i64 0) := hB21.cell 0
    have x1 : (w1.alloc (.cells #[] 79)).cell? ⟨w.heap.size + 1, 1, none⟩ = some (.slice none 0 0) := hB21.cell 1
    obtain ⟨q0, q1⟩ := hB21.two (.int .i64 now) (.slice (some ⟨w1.heap.size, 0, none⟩) 0 0)
    have hbw2 := bthen hbw1 hba
    go_wp2
    refine bodyPost_ret (v := .agg #[.int .i64 now, .slice (some ⟨w1.heap.size, 0, none⟩) 0 0]) (by simp [results, Tryz.results81, go_sem, q0, q1]) rfl ⟨_, _, rfl, (hbw2.setCell (by simp) _).setCell (by simp) _⟩
/-- when what one did is right -/
noncomputable def workB (now : Int) (l : List Ver) (t : Int) (ws : List Wri) : Bool := versB now l && (decide (0 ≤ t) && (decide (t ≤ now) && (wrsB 6 ws && rowsB (rowsN (atL l t) ws))))
theorem atL_size {l : List Ver} {t : Int} (hf : FitsV l) : ∀ x ∈ atL l t, x.1.size ≤ maxLen := by
  intro x hx
  unfold atL at hx
  obtain ⟨y, hy, rfl⟩ := List.mem_map.1 hx
  exact hf.2 y (List.mem_filter.1 hy).1
/-- the two boxes of a store and of what one did -/
def BX2 (g : Nat) (now : Int) (A : Option Addr) (l : List Ver) (c : Nat) (t : Int) (A2 : Option Addr) (ws : List Wri) (c2 : Nat) (W : World) : Prop :=
  Blk W g 36 #[.int .i64 now, .slice A l.length c] ∧ Blk W (g + 1) 39 #[.int .i64 t, .slice A2 ws.length c2] ∧ VK W now A l ∧ WK W A2 ws
theorem BX2.kept {g : Nat} {now : Int} {A : Option Addr} {l : List Ver} {c : Nat} {t : Int} {A2 : Option Addr} {ws : List Wri} {c2 : Nat} {W W' : World} (h : BX2 g now A l c t A2 ws c2 W) (hb : Below W.heap.size W W') : BX2 g now A l c t A2 ws c2 W' :=
  ⟨h.1.kept hb, h.2.1.kept hb, h.2.2.1.kp (Kp.below hb), h.2.2.2.kp (Kp.below hb)⟩
theorem BX2.new {w : World} {now : Int} {A : Option Addr} {l : List Ver} {c : Nat} {t : Int} {A2 : Option Addr} {ws : List Wri} {c2 : Nat} (hV : VK w now A l) (hW : WK w A2 ws) :
    BX2 w.heap.size now A l c t A2 ws c2 ((w.alloc (.cells #[.int .i64 now, .slice A l.length c] 36)).alloc (.cells #[.int .i64 t, .slice A2 ws.length c2] 39)) := by
  have hb := bthen (kA w (.cells #[.int .i64 now, .slice A l.length c] 36)) (kA _ (.cells #[.int .i64 t, .slice A2 ws.length c2] 39))
  have h2 := Blk.new (w.alloc (.cells #[.int .i64 now, .slice A l.length c] 36)) 39 #[.int .i64 t, .slice A2 ws.length c2]
  rw [World.size_alloc] at h2
  exact ⟨(Blk.new w _ _).alloc _, h2, hV.kp (Kp.below hb), hW.kp (Kp.below hb)⟩
set_option maxRecDepth 100000 in
set_option maxHeartbeats 8000000 in
theorem workOk_any (A : Option Addr) (l : List Ver) (c : Nat) (now : Int) (t : Int) (A2 : Option Addr) (ws : List Wri) (c2 : Nat) (w : World) (hV : VK w now A l) (hW : WK w A2 ws) :
    Calls Tryz.prog 92 #[.agg #[.int .i64 now, .slice A l.length c], .agg #[.int .i64 t, .slice A2 ws.length c2]] w fun e w' => e = .returned (.bool (workB now l t ws)) ∧ Below w.heap.size w w' := by
  have hl : l.length ≤ 60 := hV.2.2.1
  have hw8 : ws.length ≤ 8 := hW.2.2
  have HX := Lib.hid (BX2.new (c := c) (t := t) (c2 := c2) hV hW)
  have HB := Lib.hid (bthen (kA w (.cells #[.int .i64 now, .slice A l.length c] 36)) (kA _ (.cells #[.int .i64 t, .slice A2 ws.length c2] 39)))
  have hsz : w.heap.size + 1 < ((w.alloc (.cells #[.int .i64 now, .slice A l.length c] 36)).alloc (.cells #[.int .i64 t, .slice A2 ws.length c2] 39)).heap.size := by simp
  clear hV hW
  go_enter Tryz.func92, Tryz.ntmps92
  go_wp2_with fail
  generalize (w.alloc (.cells #[.int .i64 now, .slice A l.length c] 36)).alloc (.cells #[.int .i64 t, .slice A2 ws.length c2] 39) = w0 at *
  have x0 : w0.cell? ⟨w.heap.size, 0, none⟩ = some (.int .i64 now) := HX.out.1.cell 0
  have x1 : w0.cell? ⟨w.heap.size, 1, none⟩ = some (.slice A l.length c) := HX.out.1.cell 1
  have x2 : w0.cell? ⟨w.heap.size + 1, 0, none⟩ = some (.int .i64 t) := HX.out.2.1.cell 0
  have x3 : w0.cell? ⟨w.heap.size + 1, 1, none⟩ = some (.slice A2 ws.length c2) := HX.out.2.1.cell 1
  have hg : w.heap.size < w0.heap.size := by omega
  cases hv : versB now l
  · have HE := Lib.hid (show workB now l t ws = false by unfold workB; rw [hv]; rfl)
    refine wp_region_below (by kernel_rfl) (by kernel_rfl) ?_
    iterate 30 (first | go_big_quiet_skip | (refine wpQuiet_step (fun K hK => ?_); go_simp; first | (apply Exists.intro; refine ⟨fun W hW => ?_, hK _ ?_⟩; (first | rfl | (go_at_call 48; exact quiet_call hW (Nat.le_refl _) (specVersOk_any A l c now W HX.out.2.2.1.2.1 (by omega) (HX.out.kept hW).2.2.1.sl)) | (have y0 := (hW.cell (p := ⟨w.heap.size, 0, none⟩) hg).trans x0; have y1 := (hW.cell (p := ⟨w.heap.size, 1, none⟩) hg).trans x1; go_simp; rfl)); clear hK K) | (refine hK _ ?_; clear hK K)))
    refine wpQuiet_nil ?_
    intro W hW
    have HB := Lib.hid (bthen HB.out hW)
    go_wp2
    go_ret
    exact ⟨ret_bool HE.out.symm, HB.out⟩
  by_cases ht : 0 ≤ t
  case neg =>
    have d0 : decide ((0 : Int) ≤ t) = false := decide_eq_false ht
    have HE := Lib.hid (show workB now l t ws = false by unfold workB; rw [hv, d0]; rfl)
    have HV := Lib.hid hv
    refine wp_region_below (by kernel_rfl) (by kernel_rfl) ?_
    iterate 30 (first | go_big_quiet_skip | (refine wpQuiet_step (fun K hK => ?_); go_simp; first | (apply Exists.intro; refine ⟨fun W hW => ?_, hK _ ?_⟩; (first | rfl | (go_at_call 48; exact quiet_call hW (Nat.le_refl _) (HV.out ▸ specVersOk_any A l c now W HX.out.2.2.1.2.1 (by omega) (HX.out.kept hW).2.2.1.sl)) | (have y0 := (hW.cell (p := ⟨w.heap.size, 0, none⟩) hg).trans x0; have y1 := (hW.cell (p := ⟨w.heap.size, 1, none⟩) hg).trans x1; have y2 := (hW.cell (p := ⟨w.heap.size + 1, 0, none⟩) hsz).trans x2; have y3 := (hW.cell (p := ⟨w.heap.size + 1, 1, none⟩) hsz).trans x3; go_simp; rfl)); clear hK K) | (refine hK _ ?_; clear hK K)))
    refine wpQuiet_nil ?_
    intro W hW
    have HB := Lib.hid (bthen HB.out hW)
    go_wp2
    go_ret
    exact ⟨ret_bool HE.out.symm, HB.out⟩
  have d0 : decide ((0 : Int) ≤ t) = true := decide_eq_true ht
  by_cases ht2 : t ≤ now
  case neg =>
    have d1 : decide (t ≤ now) = false := decide_eq_false ht2
    have HE := Lib.hid (show workB now l t ws = false by unfold workB; rw [hv, d0, d1]; rfl)
    have HV := Lib.hid hv
    refine wp_region_below (by kernel_rfl) (by kernel_rfl) ?_
    iterate 30 (first | go_big_quiet_skip | (refine wpQuiet_step (fun K hK => ?_); go_simp; first | (apply Exists.intro; refine ⟨fun W hW => ?_, hK _ ?_⟩; (first | rfl | (go_at_call 48; exact quiet_call hW (Nat.le_refl _) (HV.out ▸ specVersOk_any A l c now W HX.out.2.2.1.2.1 (by omega) (HX.out.kept hW).2.2.1.sl)) | (have y0 := (hW.cell (p := ⟨w.heap.size, 0, none⟩) hg).trans x0; have y1 := (hW.cell (p := ⟨w.heap.size, 1, none⟩) hg).trans x1; have y2 := (hW.cell (p := ⟨w.heap.size + 1, 0, none⟩) hsz).trans x2; have y3 := (hW.cell (p := ⟨w.heap.size + 1, 1, none⟩) hsz).trans x3; go_simp; rfl)); clear hK K) | (refine hK _ ?_; clear hK K)))
    refine wpQuiet_nil ?_
    intro W hW
    have HB := Lib.hid (bthen HB.out hW)
    go_wp2
    go_ret
    exact ⟨ret_bool HE.out.symm, HB.out⟩
  have d1 : decide (t ≤ now) = true := decide_eq_true ht2
  cases hw : wrsB 6 ws
  · have HE := Lib.hid (show workB now l t ws = false by unfold workB; rw [hv, d0, d1, hw]; rfl)
    have HV := Lib.hid (⟨hv, hw⟩ : _ ∧ _)
    refine wp_region_below (by kernel_rfl) (by kernel_rfl) ?_
    iterate 30 (first | go_big_quiet_skip | (refine wpQuiet_step (fun K hK => ?_); go_simp; first | (apply Exists.intro; refine ⟨fun W hW => ?_, hK _ ?_⟩; (first | rfl | (go_at_call 48; exact quiet_call hW (Nat.le_refl _) (HV.out.1 ▸ specVersOk_any A l c now W HX.out.2.2.1.2.1 (by omega) (HX.out.kept hW).2.2.1.sl)) | (go_at_call 25; exact quiet_call hW (Nat.le_refl _) (HV.out.2 ▸ specWritesOk_any A2 ws c2 W HX.out.2.2.2.2.1 (by omega) (HX.out.kept hW).2.2.2.sl)) | (have y0 := (hW.cell (p := ⟨w.heap.size, 0, none⟩) hg).trans x0; have y1 := (hW.cell (p := ⟨w.heap.size, 1, none⟩) hg).trans x1; have y2 := (hW.cell (p := ⟨w.heap.size + 1, 0, none⟩) hsz).trans x2; have y3 := (hW.cell (p := ⟨w.heap.size + 1, 1, none⟩) hsz).trans x3; go_simp; rfl)); clear hK K) | (refine hK _ ?_; clear hK K)))
    refine wpQuiet_nil ?_
    intro W hW
    have HB := Lib.hid (bthen HB.out hW)
    go_wp2
    go_ret
    exact ⟨ret_bool HE.out.symm, HB.out⟩
  have HE := Lib.hid (show workB now l t ws = rowsB (rowsN (atL l t) ws) by unfold workB; rw [hv, d0, d1, hw]; simp)
  have HX := Lib.hid (HX.out.kept (kD w0))
  have HB := Lib.hid (bthen HB.out (kD w0))
  have hal : (atL l t).length ≤ 60 := by have := atL_le l t; omega
  go_region_held3 (fun W => W.cell? ⟨w.heap.size, 0, none⟩ = some (.int .i64 now) ∧ W.cell? ⟨w.heap.size, 1, none⟩ = some (.slice A l.length c) ∧ W.cell? ⟨w.heap.size + 1, 0, none⟩ = some (.int .i64 t) ∧ W.cell? ⟨w.heap.size + 1, 1, none⟩ = some (.slice A2 ws.length c2))
    (first | assumption | go_keep)
    (first
      | (go_at_call 48
         refine (specVersOk_any A l c now _ HX.out.2.2.1.2.1 (by omega) HX.out.2.2.1.sl).mono ?_
         rintro e wk ⟨rfl, hbk⟩
         have HX := Lib.hid (HX.out.kept hbk)
         have HB := Lib.hid (bthen HB.out hbk)
         have hkk : wk.cell? ⟨w.heap.size, 0, none⟩ = some (.int .i64 now) ∧ wk.cell? ⟨w.heap.size, 1, none⟩ = some (.slice A l.length c) ∧ wk.cell? ⟨w.heap.size + 1, 0, none⟩ = some (.int .i64 t) ∧ wk.cell? ⟨w.heap.size + 1, 1, none⟩ = some (.slice A2 ws.length c2) := ⟨HX.out.1.cell 0, HX.out.1.cell 1, HX.out.2.1.cell 0, HX.out.2.1.cell 1⟩
         clear hbk)
      | (go_at_call 25
         refine (specWritesOk_any A2 ws c2 _ HX.out.2.2.2.2.1 (by omega) HX.out.2.2.2.sl).mono ?_
         rintro e wk ⟨rfl, hbk⟩
         have HX := Lib.hid (HX.out.kept hbk)
         have HB := Lib.hid (bthen HB.out hbk)
         have hkk : wk.cell? ⟨w.heap.size, 0, none⟩ = some (.int .i64 now) ∧ wk.cell? ⟨w.heap.size, 1, none⟩ = some (.slice A l.length c) ∧ wk.cell? ⟨w.heap.size + 1, 0, none⟩ = some (.int .i64 t) ∧ wk.cell? ⟨w.heap.size + 1, 1, none⟩ = some (.slice A2 ws.length c2) := ⟨HX.out.1.cell 0, HX.out.1.cell 1, HX.out.2.1.cell 0, HX.out.2.1.cell 1⟩
         clear hbk)
      | (go_at_call 24
         refine (l2At_any A l c now t _ (by omega) HX.out.2.2.1.sl).mono ?_
         rintro e wk ⟨va, rfl, hoa, hbk⟩
         obtain ⟨Aa, ca, rfl, _, _, _⟩ := OwnR.sl (l := atL l t) hoa
         have HO := Lib.hid hoa
         have HX := Lib.hid (HX.out.kept hbk)
         have HB := Lib.hid (bthen HB.out hbk)
         have hkk : wk.cell? ⟨w.heap.size, 0, none⟩ = some (.int .i64 now) ∧ wk.cell? ⟨w.heap.size, 1, none⟩ = some (.slice A l.length c) ∧ wk.cell? ⟨w.heap.size + 1, 0, none⟩ = some (.int .i64 t) ∧ wk.cell? ⟨w.heap.size + 1, 1, none⟩ = some (.slice A2 ws.length c2) := ⟨HX.out.1.cell 0, HX.out.1.cell 1, HX.out.2.1.cell 0, HX.out.2.1.cell 1⟩
         clear hbk hoa)
      | (go_at_call 93
         refine (l3Rows_any _ Aa (atL l t) ca A2 ws c2 _ (by omega) (by omega) HO.out HX.out.2.2.2.sl).mono ?_
         rintro e wk ⟨Ar, cr, Br, rfl, hor, hbk⟩
         have HR := Lib.hid hor
         have HX := Lib.hid (HX.out.kept hbk)
         have HB := Lib.hid (bthen HB.out hbk)
         have hkk : wk.cell? ⟨w.heap.size, 0, none⟩ = some (.int .i64 now) ∧ wk.cell? ⟨w.heap.size, 1, none⟩ = some (.slice A l.length c) ∧ wk.cell? ⟨w.heap.size + 1, 0, none⟩ = some (.int .i64 t) ∧ wk.cell? ⟨w.heap.size + 1, 1, none⟩ = some (.slice A2 ws.length c2) := ⟨HX.out.1.cell 0, HX.out.1.cell 1, HX.out.2.1.cell 0, HX.out.2.1.cell 1⟩
         clear hbk hor)
      | (go_at_call 104
         refine (specRowsOk_any Ar (rowsN (atL l t) ws) cr _ (rowsN_size ws _ (atL_size HX.out.2.2.1.2.1) HX.out.2.2.2.2.1.2) (by have := rowsN_len ws (atL l t); omega) HR.out.reads).mono ?_
         rintro e wk ⟨rfl, hbk⟩
         have HX := Lib.hid (HX.out.kept hbk)
         have HB := Lib.hid (bthen HB.out hbk)
         have hkk : wk.cell? ⟨w.heap.size, 0, none⟩ = some (.int .i64 now) ∧ wk.cell? ⟨w.heap.size, 1, none⟩ = some (.slice A l.length c) ∧ wk.cell? ⟨w.heap.size + 1, 0, none⟩ = some (.int .i64 t) ∧ wk.cell? ⟨w.heap.size + 1, 1, none⟩ = some (.slice A2 ws.length c2) := ⟨HX.out.1.cell 0, HX.out.1.cell 1, HX.out.2.1.cell 0, HX.out.2.1.cell 1⟩
         clear hbk))
  all_goals
    go_wp2
    go_ret
    exact ⟨ret_bool HE.out.symm, HB.out⟩
end Go.Proofs.YtfmhhckkpenldaaGreatDoor
/- The reference's l4Copy and l6Copy: a seat, one who talks, in new memory. -/
namespace Go.Proofs.YtfmhhckkpenldaaGreatDoor
open Go.RowKit
theorem kE (W : World) : Below W.heap.size W W.drew := (Below.refl _ _).drew
theorem kF (W : World) (o : Obj) : Below W.heap.size W (W.alloc o) := (Below.refl _ _).alloc (Nat.le_refl _) _
def SeatP (w : World) (on bad : Bool) (t : Int) (ws : List Wri) (e : Ending) (w' : World) : Prop := ∃ (A' : Option Addr) (c' : Nat), e = .returned (.agg #[.bool on, .bool bad, .int .i64 t, .slice A' ws.length c']) ∧ WK w' A' ws ∧ Below w.heap.size w w'
set_option maxRecDepth 100000 in
set_option maxHeartbeats 4000000 in
theorem l4Copy_any (on bad : Bool) (t : Int) (A2 : Option Addr) (ws : List Wri) (c2 : Nat) (w : World) (hW : WK w A2 ws) :
    Calls Tryz.prog 49 #[.agg #[.bool on, .bool bad, .int .i64 t, .slice A2 ws.length c2]] w (SeatP w on bad t ws) := by
  have hw8 : ws.length ≤ 8 := hW.2.2
  have HWF := Lib.hid hW.2
  have hbE := allocAll_below w [(41, #[.bool on, .bool bad, .int .i64 t, .slice A2 ws.length c2]), (41, #[.bool false, .bool false, .int .i64 0, .slice none 0 0])]
  have H : Hid (SP w [(w.heap.size, 41, #[.bool on, .bool bad, .int .i64 t, .slice A2 ws.length c2]), (w.heap.size + 1, 41, #[.bool false, .bool false, .int .i64 0, .slice none 0 0])] [fun W => WK W A2 ws] ((allocAll w [(41, #[.bool on, .bool bad, .int .i64 t, .slice A2 ws.length c2]), (41, #[.bool false, .bool false, .int .i64 0, .slice none 0 0])]))) := Lib.hid (SP.add (SP.start w [(41, #[.bool on, .bool bad, .int .i64 t, .slice A2 ws.length c2]), (41, #[.bool false, .bool false, .int .i64 0, .slice none 0 0])]) _ WK.c (WK.c _ _ (Kp.below hbE) hW))
  clear hbE
  go_enter Tryz.func49, Tryz.ntmps49
  clear hW
  obtain ⟨x0_0, x0_1, x0_2, x0_3⟩ := Blk.q4 (H.out.blk 0 rfl)
  obtain ⟨x1_0, x1_1, x1_2, x1_3⟩ := Blk.q4 (H.out.blk 1 rfl)
  have z1_0 := (H.out.blk 1 rfl).frozen 0
  have z1_1 := (H.out.blk 1 rfl).frozen 1
  have z1_2 := (H.out.blk 1 rfl).frozen 2
  have z1_3 := (H.out.blk 1 rfl).frozen 3
  go_wp2_with fail
  change Code.wp _ _ _ _ (allocAll w [(41, #[.bool on, .bool bad, .int .i64 t, .slice A2 ws.length c2]), (41, #[.bool false, .bool false, .int .i64 0, .slice none 0 0])])
  generalize (allocAll w [(41, #[.bool on, .bool bad, .int .i64 t, .slice A2 ws.length c2]), (41, #[.bool false, .bool false, .int .i64 0, .slice none 0 0])]) = w0 at *
  have l0 := (H.out.blk 0 rfl).lt
  have l1 := (H.out.blk 1 rfl).lt
  replace H := Lib.hid (H.out.kept (kE w0))
  go_region_held3 (fun W => W.cell? ⟨w.heap.size, 0, none⟩ = some (.bool on) ∧ W.cell? ⟨w.heap.size, 1, none⟩ = some (.bool bad) ∧ W.cell? ⟨w.heap.size, 2, none⟩ = some (.int .i64 t) ∧ W.cell? ⟨w.heap.size, 3, none⟩ = some (.slice A2 ws.length c2))
    (first | assumption | go_keep)
    (first
      | (go_at_call 62
         refine (l3Copy_any A2 ws c2 t _ (by omega) (WK.sl (H.out.get 0 rfl))).mono ?_
         rintro e wz ⟨vz, rfl, hoz, hbz⟩
         obtain ⟨Az, cz, rfl, _, _, _⟩ := hoz.sl
         replace H := Lib.hid (SP.add (H.out.kept hbz) (fun W => WK W Az ws) WK.c (WK.of hoz HWF.out.1 HWF.out.2))
         have hk0 : wz.cell? ⟨w.heap.size, 0, none⟩ = some (.bool on) ∧ wz.cell? ⟨w.heap.size, 1, none⟩ = some (.bool bad) ∧ wz.cell? ⟨w.heap.size, 2, none⟩ = some (.int .i64 t) ∧ wz.cell? ⟨w.heap.size, 3, none⟩ = some (.slice A2 ws.length c2) := ⟨(H.out.blk 0 rfl).cell 0, (H.out.blk 0 rfl).cell 1, (H.out.blk 0 rfl).cell 2, (H.out.blk 0 rfl).cell 3⟩
         have hkk : wz.cell? ⟨w.heap.size, 0, none⟩ = some (.bool on) ∧ wz.cell? ⟨w.heap.size, 1, none⟩ = some (.bool bad) ∧ wz.cell? ⟨w.heap.size, 2, none⟩ = some (.int .i64 t) ∧ wz.cell? ⟨w.heap.size, 3, none⟩ = some (.slice A2 ws.length c2) ∧ wz.cell? ⟨w.heap.size + 1, 0, none⟩ = some (.bool false) ∧ wz.cell? ⟨w.heap.size + 1, 1, none⟩ = some (.bool false) ∧ wz.cell? ⟨w.heap.size + 1, 2, none⟩ = some (.int .i64 0) ∧ wz.cell? ⟨w.heap.size + 1, 3, none⟩ = some (.slice none 0 0) := ⟨(H.out.blk 0 rfl).cell 0, (H.out.blk 0 rfl).cell 1, (H.out.blk 0 rfl).cell 2, (H.out.blk 0 rfl).cell 3, (H.out.blk 1 rfl).cell 0, (H.out.blk 1 rfl).cell 1, (H.out.blk 1 rfl).cell 2, (H.out.blk 1 rfl).cell 3⟩
         have hfz := fun j => (H.out.blk 1 rfl).frozen j
         clear hbz hoz))
  all_goals
    obtain ⟨x0_0, x0_1, x0_2, x0_3, x1_0, x1_1, x1_2, x1_3⟩ := hkk
    go_wp2
    first
    | (have HZ := Lib.hid (SP.set (SP.set (SP.set (SP.set (H.out) 1 0 (.bool on) rfl (by decide)) 1 1 (.bool bad) rfl (by decide)) 1 2 (.int .i64 t) rfl (by decide)) 1 3 (.slice Az ws.length cz) rfl (by decide)); refine bodyPost_ret (v := .agg #[.bool on, .bool bad, .int .i64 t, .slice Az ws.length cz]) ?_ rfl (⟨Az, cz, rfl, HZ.out.get 1 rfl, HZ.out.below⟩); (simp [results, Tryz.results49, go_sem, x1_0, x1_1, x1_2, x1_3]; done))
theorem blk8 {W : World} {a g : Nat} {t : TypeId} {cs : Array Value} (hB : Blk W a t cs) (h : a ≠ g) (u0 u1 u2 u3 u4 u5 u6 u7 : Value) : Blk ((((((((W.setCell ⟨g, 0, none⟩ u0).setCell ⟨g, 1, none⟩ u1).setCell ⟨g, 2, none⟩ u2).setCell ⟨g, 3, none⟩ u3).setCell ⟨g, 4, none⟩ u4).setCell ⟨g, 5, none⟩ u5).setCell ⟨g, 6, none⟩ u6).setCell ⟨g, 7, none⟩ u7) a t cs :=
  (((((((hB.far (p := ⟨g, 0, none⟩) h u0).far (p := ⟨g, 1, none⟩) h u1).far (p := ⟨g, 2, none⟩) h u2).far (p := ⟨g, 3, none⟩) h u3).far (p := ⟨g, 4, none⟩) h u4).far (p := ⟨g, 5, none⟩) h u5).far (p := ⟨g, 6, none⟩) h u6).far (p := ⟨g, 7, none⟩) h u7
theorem SlK.grown {α : Type} {enc : α → List Value} {k : Nat} {t t2 : TypeId} {w w' : World} {A : Option Addr} {l : List α} {e : Nat} {cs : Array Value} (h : SlK enc k t w A l) (hE : Blk w e t2 cs) (hg : w.grownBy w' (some e)) (hne : t ≠ t2) : SlK enc k t w' A l := fun hl => by
  obtain ⟨b, o, cs2, eA, hb, hc⟩ := h hl
  exact ⟨b, o, cs2, eA, hb.grown hg (fun e2 => by injection e2 with e2; exact blk_ne hb hE hne e2), hc⟩
theorem WK.grownN {W W' : World} {A : Option Addr} {ws : List Wri} {e n m : Nat} {cs : Array Value} (h : WK W A ws) (hE : Blk W e 93 cs) (hg : W.grownBy W' (Value.slice (some ⟨e, 0, none⟩) n m).ownBlock) : WK W' A ws := ⟨h.1.grown hE hg (by decide), h.2⟩
theorem encNm_one (l : List Nm) : ∀ u ∈ l.flatMap encNm, u.oneCell' = true := by
  intro u hu
  obtain ⟨x, _, hx⟩ := List.mem_flatMap.1 hu
  simp [encNm] at hx
  rcases hx with rfl | rfl | rfl | rfl | rfl <;> rfl
theorem ownN_of {w : World} {B : Nat} {v : Value} {l : List Nm} (h : w.ownsRow B 93 5 v (0 + l.length) ([] ++ l.flatMap encNm)) : OwnN w B v l := by unfold OwnN; simpa using h
theorem NK.of {W : World} {B c : Nat} {A : Option Addr} {l : List Nm} (h : OwnN W B (.slice A l.length c) l) (hf : ∀ x ∈ l, x.1.size ≤ 10 ∧ x.2.2.1.size ≤ maxLen ∧ x.2.2.2.1.size ≤ maxLen) (hl : l.length ≤ 4) : NK W A l := ⟨SlK.of_own encNm_len h, hf, hl⟩
/-- one who talks comes back -/
def TalkP (w : World) (on bad : Bool) (t : Int) (ws : List Wri) (ns : List Nm) (skip gone : Bool) (inb : ByteArray) (e : Ending) (w' : World) : Prop := ∃ (A' : Option Addr) (c' : Nat) (A3' : Option Addr) (c3' : Nat), e = .returned (.agg #[.bool on, .bool bad, .int .i64 t, .slice A' ws.length c', .slice A3' ns.length c3', .bool skip, .bool gone, .string inb]) ∧ WK w' A' ws ∧ NK w' A3' ns ∧ Below w.heap.size w w'
set_option maxRecDepth 100000 in
set_option maxHeartbeats 8000000 in
theorem l6Copy_any (on bad : Bool) (t : Int) (A2 : Option Addr) (ws : List Wri) (c2 : Nat) (A3 : Option Addr) (ns : List Nm) (c3 : Nat) (skip gone : Bool) (inb : ByteArray) (w : World) (hW : WK w A2 ws) (hN : NK w A3 ns) :
    Calls Tryz.prog 28 #[.agg #[.bool on, .bool bad, .int .i64 t, .slice A2 ws.length c2, .slice A3 ns.length c3, .bool skip, .bool gone, .string inb]] w (TalkP w on bad t ws ns skip gone inb) := by
  obtain ⟨i0, hi, hz0, hz1, hz2⟩ := info_parts infoNm
  have HI := Lib.hid (⟨hi, hz0, hz1, hz2⟩ : _ ∧ _ ∧ _ ∧ _)
  clear hi hz0 hz1 hz2
  have hw8 : ws.length ≤ 8 := hW.2.2
  have hn4 : ns.length ≤ 4 := hN.2.2
  have HNF := Lib.hid hN.2
  have H63 := Lib.hid (show 0 + ns.length ≤ maxLen by unfold maxLen; omega)
  have HBY := Lib.hid (show (0 + ns.length) * 64 ≤ 140737488355328 by omega)
  have hbE := allocAll_below w [(44, #[.bool on, .bool bad, .int .i64 t, .slice A2 ws.length c2, .slice A3 ns.length c3, .bool skip, .bool gone, .string inb]), (44, #[.bool false, .bool false, .int .i64 0, .slice none 0 0, .slice none 0 0, .bool false, .bool false, .string ⟨#[]⟩])]
  have H : Hid (SP w [(w.heap.size, 44, #[.bool on, .bool bad, .int .i64 t, .slice A2 ws.length c2, .slice A3 ns.length c3, .bool skip, .bool gone, .string inb]), (w.heap.size + 1, 44, #[.bool false, .bool false, .int .i64 0, .slice none 0 0, .slice none 0 0, .bool false, .bool false, .string ⟨#[]⟩])] [fun W => WK W A2 ws, fun W => NK W A3 ns] ((allocAll w [(44, #[.bool on, .bool bad, .int .i64 t, .slice A2 ws.length c2, .slice A3 ns.length c3, .bool skip, .bool gone, .string inb]), (44, #[.bool false, .bool false, .int .i64 0, .slice none 0 0, .slice none 0 0, .bool false, .bool false, .string ⟨#[]⟩])]))) := Lib.hid (SP.add (SP.add (SP.start w [(44, #[.bool on, .bool bad, .int .i64 t, .slice A2 ws.length c2, .slice A3 ns.length c3, .bool skip, .bool gone, .string inb]), (44, #[.bool false, .bool false, .int .i64 0, .slice none 0 0, .slice none 0 0, .bool false, .bool false, .string ⟨#[]⟩])]) _ WK.c (WK.c _ _ (Kp.below hbE) hW)) _ NK.c (NK.c _ _ (Kp.below hbE) hN))
  clear hbE
  go_enter Tryz.func28, Tryz.ntmps28
  clear hW hN
  obtain ⟨x0_0, x0_1, x0_2, x0_3, x0_4, x0_5, x0_6, x0_7⟩ := Blk.q8 (H.out.blk 0 rfl)
  obtain ⟨x1_0, x1_1, x1_2, x1_3, x1_4, x1_5, x1_6, x1_7⟩ := Blk.q8 (H.out.blk 1 rfl)
  have z1_0 := (H.out.blk 1 rfl).frozen 0
  have z1_1 := (H.out.blk 1 rfl).frozen 1
  have z1_2 := (H.out.blk 1 rfl).frozen 2
  have z1_3 := (H.out.blk 1 rfl).frozen 3
  have z1_4 := (H.out.blk 1 rfl).frozen 4
  have z1_5 := (H.out.blk 1 rfl).frozen 5
  have z1_6 := (H.out.blk 1 rfl).frozen 6
  have z1_7 := (H.out.blk 1 rfl).frozen 7
  go_wp2_with fail
  change Code.wp _ _ _ _ (allocAll w [(44, #[.bool on, .bool bad, .int .i64 t, .slice A2 ws.length c2, .slice A3 ns.length c3, .bool skip, .bool gone, .string inb]), (44, #[.bool false, .bool false, .int .i64 0, .slice none 0 0, .slice none 0 0, .bool false, .bool false, .string ⟨#[]⟩])])
  generalize (allocAll w [(44, #[.bool on, .bool bad, .int .i64 t, .slice A2 ws.length c2, .slice A3 ns.length c3, .bool skip, .bool gone, .string inb]), (44, #[.bool false, .bool false, .int .i64 0, .slice none 0 0, .slice none 0 0, .bool false, .bool false, .string ⟨#[]⟩])]) = w0 at *
  have l0 := (H.out.blk 0 rfl).lt
  have l1 := (H.out.blk 1 rfl).lt
  clear x0_0 x0_1 x0_2 x0_3 x0_4 x0_5 x0_6 x0_7
  have hB0 : ∀ W : World, Blk W w.heap.size 44 #[.bool on, .bool bad, .int .i64 t, .slice A2 ws.length c2, .slice A3 ns.length c3, .bool skip, .bool gone, .string inb] → W.cell? ⟨w.heap.size, 0, none⟩ = some (.bool on) := fun W h => h.cell 0
  have hB1 : ∀ W : World, Blk W w.heap.size 44 #[.bool on, .bool bad, .int .i64 t, .slice A2 ws.length c2, .slice A3 ns.length c3, .bool skip, .bool gone, .string inb] → W.cell? ⟨w.heap.size, 1, none⟩ = some (.bool bad) := fun W h => h.cell 1
  have hB2 : ∀ W : World, Blk W w.heap.size 44 #[.bool on, .bool bad, .int .i64 t, .slice A2 ws.length c2, .slice A3 ns.length c3, .bool skip, .bool gone, .string inb] → W.cell? ⟨w.heap.size, 2, none⟩ = some (.int .i64 t) := fun W h => h.cell 2
  have hB3 : ∀ W : World, Blk W w.heap.size 44 #[.bool on, .bool bad, .int .i64 t, .slice A2 ws.length c2, .slice A3 ns.length c3, .bool skip, .bool gone, .string inb] → W.cell? ⟨w.heap.size, 3, none⟩ = some (.slice A2 ws.length c2) := fun W h => h.cell 3
  have hB4 : ∀ W : World, Blk W w.heap.size 44 #[.bool on, .bool bad, .int .i64 t, .slice A2 ws.length c2, .slice A3 ns.length c3, .bool skip, .bool gone, .string inb] → W.cell? ⟨w.heap.size, 4, none⟩ = some (.slice A3 ns.length c3) := fun W h => h.cell 4
  have hB5 : ∀ W : World, Blk W w.heap.size 44 #[.bool on, .bool bad, .int .i64 t, .slice A2 ws.length c2, .slice A3 ns.length c3, .bool skip, .bool gone, .string inb] → W.cell? ⟨w.heap.size, 5, none⟩ = some (.bool skip) := fun W h => h.cell 5
  have hB6 : ∀ W : World, Blk W w.heap.size 44 #[.bool on, .bool bad, .int .i64 t, .slice A2 ws.length c2, .slice A3 ns.length c3, .bool skip, .bool gone, .string inb] → W.cell? ⟨w.heap.size, 6, none⟩ = some (.bool gone) := fun W h => h.cell 6
  have hB7 : ∀ W : World, Blk W w.heap.size 44 #[.bool on, .bool bad, .int .i64 t, .slice A2 ws.length c2, .slice A3 ns.length c3, .bool skip, .bool gone, .string inb] → W.cell? ⟨w.heap.size, 7, none⟩ = some (.string inb) := fun W h => h.cell 7
  have hb0 : Blk w0 w.heap.size 44 #[.bool on, .bool bad, .int .i64 t, .slice A2 ws.length c2, .slice A3 ns.length c3, .bool skip, .bool gone, .string inb] := H.out.blk 0 rfl
  have hbD : Blk w0.drew w.heap.size 44 #[.bool on, .bool bad, .int .i64 t, .slice A2 ws.length c2, .slice A3 ns.length c3, .bool skip, .bool gone, .string inb] := (H.out.kept (kE w0)).blk 0 rfl
  go_region_held3 (fun W => Blk W w.heap.size 44 #[.bool on, .bool bad, .int .i64 t, .slice A2 ws.length c2, .slice A3 ns.length c3, .bool skip, .bool gone, .string inb])
    (first | (with_reducible assumption) | (with_reducible refine Blk.alloc ?_ _; with_reducible assumption) | (with_reducible refine Blk.drew ?_; with_reducible refine Blk.alloc ?_ _; with_reducible assumption) | (with_reducible refine blk8 ?_ ?_ _ _ _ _ _ _ _ _; with_reducible assumption; simp))
    (first
      | (refine step_append_slB (enc := encNm) rfl (.tmp 6) (.tmp 8) 42 rfl w0.heap.size 93 i0 (.agg #[.string ⟨#[]⟩, .int .i64 0, .string ⟨#[]⟩, .string ⟨#[]⟩, .int .i64 0]) 5 64 Tryz.underlying42 HI.out.1 HI.out.2.1 HI.out.2.2.1 HI.out.2.2.2 rfl (by decide) (.slice (some ⟨w0.heap.size, 0, none⟩) 0 0) 0 [] (by simp [Act.eval]) (own_of_blk (base := w0.heap.size) (n := 0) (k := 5) (xs := []) HE.out (Nat.le_refl _) (Nat.zero_le _) rfl rfl) encNm_len A3 ns ns.length c3 rfl (by simp [Act.eval]) (NK.sl (SP.get (H.out.kept HB.out) 1 rfl)) (encNm_one _) H63.out HBY.out HB.out.size ?_
         intro va wa howna hgra _
         have hoN : OwnN wa w0.heap.size va ns := ownN_of howna
         obtain ⟨An, cn, rfl, _, _, _⟩ := hoN.sl
         have HO := Lib.hid hoN
         have HB := Lib.hid (below_own HB.out hgra HB.out.size (fun j hj => by simp [Value.ownBlock] at hj; omega))
         have HWZ : Hid (WK wa Az ws) := Lib.hid (HWZ.out.grownN HE.out hgra)
         try clear hkk hkr hfz hl0 hl1
         have HK := Lib.hid (H.out.kept HB.out)
         have hkk : Blk wa w.heap.size 44 #[.bool on, .bool bad, .int .i64 t, .slice A2 ws.length c2, .slice A3 ns.length c3, .bool skip, .bool gone, .string inb] := SP.blk HK.out 0 rfl
         have hl0 := (SP.blk HK.out 0 rfl).lt
         have hl1 := (SP.blk HK.out 1 rfl).lt
         have hkr : wa.cell? ⟨w.heap.size + 1, 0, none⟩ = some (.bool false) ∧ wa.cell? ⟨w.heap.size + 1, 1, none⟩ = some (.bool false) ∧ wa.cell? ⟨w.heap.size + 1, 2, none⟩ = some (.int .i64 0) ∧ wa.cell? ⟨w.heap.size + 1, 3, none⟩ = some (.slice none 0 0) ∧ wa.cell? ⟨w.heap.size + 1, 4, none⟩ = some (.slice none 0 0) ∧ wa.cell? ⟨w.heap.size + 1, 5, none⟩ = some (.bool false) ∧ wa.cell? ⟨w.heap.size + 1, 6, none⟩ = some (.bool false) ∧ wa.cell? ⟨w.heap.size + 1, 7, none⟩ = some (.string ⟨#[]⟩) := ⟨(SP.blk HK.out 1 rfl).cell 0, (SP.blk HK.out 1 rfl).cell 1, (SP.blk HK.out 1 rfl).cell 2, (SP.blk HK.out 1 rfl).cell 3, (SP.blk HK.out 1 rfl).cell 4, (SP.blk HK.out 1 rfl).cell 5, (SP.blk HK.out 1 rfl).cell 6, (SP.blk HK.out 1 rfl).cell 7⟩
         have hfz : ∀ j, wa.frozen? ⟨w.heap.size + 1, j, none⟩ = false := fun j => (SP.blk HK.out 1 rfl).frozen j
         clear HK
         clear hoN howna hgra)
      | (refine step_append_slB (enc := encNm) rfl (.tmp 6) (.tmp 8) 42 rfl w0.heap.size 93 i0 (.agg #[.string ⟨#[]⟩, .int .i64 0, .string ⟨#[]⟩, .string ⟨#[]⟩, .int .i64 0]) 5 64 Tryz.underlying42 HI.out.1 HI.out.2.1 HI.out.2.2.1 HI.out.2.2.2 rfl (by decide) (.slice (some ⟨wz.heap.size, 0, none⟩) 0 0) 0 [] (by simp [Act.eval]) (own_of_blk (base := w0.heap.size) (n := 0) (k := 5) (xs := []) (Blk.new wz 93 #[]) HB.out.size (Nat.zero_le _) rfl rfl) encNm_len A3 ns ns.length c3 rfl (by simp [Act.eval]) (NK.sl (SP.get (H.out.kept (bthen HB.out (kF wz (.cells #[] 93)))) 1 rfl)) (encNm_one _) H63.out HBY.out (bthen HB.out (kF wz (.cells #[] 93))).size ?_
         intro va wa howna hgra _
         have hoN : OwnN wa w0.heap.size va ns := ownN_of howna
         obtain ⟨An, cn, rfl, _, _, _⟩ := hoN.sl
         have HO := Lib.hid hoN
         have HLE := Lib.hid HB.out.size
         have HB := Lib.hid (below_own (bthen HB.out (kF wz (.cells #[] 93))) hgra (bthen HB.out (kF wz (.cells #[] 93))).size (fun j hj => by have := HLE.out; simp [Value.ownBlock] at hj; omega))
         have HWZ : Hid (WK wa Az ws) := Lib.hid ((HWZ.out.kp (Kp.below (kF wz (.cells #[] 93)))).grownN (Blk.new wz 93 #[]) hgra)
         try clear hkk hkr hfz hl0 hl1
         have HK := Lib.hid (H.out.kept HB.out)
         have hkk : Blk wa w.heap.size 44 #[.bool on, .bool bad, .int .i64 t, .slice A2 ws.length c2, .slice A3 ns.length c3, .bool skip, .bool gone, .string inb] := SP.blk HK.out 0 rfl
         have hl0 := (SP.blk HK.out 0 rfl).lt
         have hl1 := (SP.blk HK.out 1 rfl).lt
         have hkr : wa.cell? ⟨w.heap.size + 1, 0, none⟩ = some (.bool false) ∧ wa.cell? ⟨w.heap.size + 1, 1, none⟩ = some (.bool false) ∧ wa.cell? ⟨w.heap.size + 1, 2, none⟩ = some (.int .i64 0) ∧ wa.cell? ⟨w.heap.size + 1, 3, none⟩ = some (.slice none 0 0) ∧ wa.cell? ⟨w.heap.size + 1, 4, none⟩ = some (.slice none 0 0) ∧ wa.cell? ⟨w.heap.size + 1, 5, none⟩ = some (.bool false) ∧ wa.cell? ⟨w.heap.size + 1, 6, none⟩ = some (.bool false) ∧ wa.cell? ⟨w.heap.size + 1, 7, none⟩ = some (.string ⟨#[]⟩) := ⟨(SP.blk HK.out 1 rfl).cell 0, (SP.blk HK.out 1 rfl).cell 1, (SP.blk HK.out 1 rfl).cell 2, (SP.blk HK.out 1 rfl).cell 3, (SP.blk HK.out 1 rfl).cell 4, (SP.blk HK.out 1 rfl).cell 5, (SP.blk HK.out 1 rfl).cell 6, (SP.blk HK.out 1 rfl).cell 7⟩
         have hfz : ∀ j, wa.frozen? ⟨w.heap.size + 1, j, none⟩ = false := fun j => (SP.blk HK.out 1 rfl).frozen j
         clear HK
         clear hoN howna hgra)
      | (refine step_append_slB (enc := encNm) rfl (.tmp 6) (.tmp 8) 42 rfl w0.heap.size 93 i0 (.agg #[.string ⟨#[]⟩, .int .i64 0, .string ⟨#[]⟩, .string ⟨#[]⟩, .int .i64 0]) 5 64 Tryz.underlying42 HI.out.1 HI.out.2.1 HI.out.2.2.1 HI.out.2.2.2 rfl (by decide) (.slice (some ⟨w0.heap.size, 0, none⟩) 0 0) 0 [] (by simp [Act.eval]) (own_of_blk (base := w0.heap.size) (n := 0) (k := 5) (xs := []) (Blk.new w0 93 #[]).drew (Nat.le_refl _) (Nat.zero_le _) rfl rfl) encNm_len A3 ns ns.length c3 rfl (by simp [Act.eval]) (NK.sl (SP.get (H.out.kept (bthen (kF w0 (.cells #[] 93)) (kE _))) 1 rfl)) (encNm_one _) H63.out HBY.out (bthen (kF w0 (.cells #[] 93)) (kE _)).size ?_
         intro va wa howna hgra _
         have hoN : OwnN wa w0.heap.size va ns := ownN_of howna
         obtain ⟨An, cn, rfl, _, _, _⟩ := hoN.sl
         have HO := Lib.hid hoN
         have HB := Lib.hid (below_own (bthen (kF w0 (.cells #[] 93)) (kE _)) hgra (bthen (kF w0 (.cells #[] 93)) (kE _)).size (fun j hj => by simp [Value.ownBlock] at hj; omega))
         try clear hkk hkr hfz hl0 hl1
         have HK := Lib.hid (H.out.kept HB.out)
         have hkk : Blk wa w.heap.size 44 #[.bool on, .bool bad, .int .i64 t, .slice A2 ws.length c2, .slice A3 ns.length c3, .bool skip, .bool gone, .string inb] := SP.blk HK.out 0 rfl
         have hl0 := (SP.blk HK.out 0 rfl).lt
         have hl1 := (SP.blk HK.out 1 rfl).lt
         have hkr : wa.cell? ⟨w.heap.size + 1, 0, none⟩ = some (.bool false) ∧ wa.cell? ⟨w.heap.size + 1, 1, none⟩ = some (.bool false) ∧ wa.cell? ⟨w.heap.size + 1, 2, none⟩ = some (.int .i64 0) ∧ wa.cell? ⟨w.heap.size + 1, 3, none⟩ = some (.slice none 0 0) ∧ wa.cell? ⟨w.heap.size + 1, 4, none⟩ = some (.slice none 0 0) ∧ wa.cell? ⟨w.heap.size + 1, 5, none⟩ = some (.bool false) ∧ wa.cell? ⟨w.heap.size + 1, 6, none⟩ = some (.bool false) ∧ wa.cell? ⟨w.heap.size + 1, 7, none⟩ = some (.string ⟨#[]⟩) := ⟨(SP.blk HK.out 1 rfl).cell 0, (SP.blk HK.out 1 rfl).cell 1, (SP.blk HK.out 1 rfl).cell 2, (SP.blk HK.out 1 rfl).cell 3, (SP.blk HK.out 1 rfl).cell 4, (SP.blk HK.out 1 rfl).cell 5, (SP.blk HK.out 1 rfl).cell 6, (SP.blk HK.out 1 rfl).cell 7⟩
         have hfz : ∀ j, wa.frozen? ⟨w.heap.size + 1, j, none⟩ = false := fun j => (SP.blk HK.out 1 rfl).frozen j
         clear HK
         clear hoN howna hgra)
      | (go_at_call 49
         with_reducible show Calls _ _ _ (World.drew (World.alloc _ _)) _
         refine (l4Copy_any on bad t A2 ws c2 ((w0.alloc (.cells #[] 93)).drew) (SP.get (H.out.kept (bthen (kF w0 (.cells #[] 93)) (kE _))) 0 rfl)).mono ?_
         rintro e wz ⟨Az, cz, rfl, hwz, hbz⟩
         have HE : Hid (Blk wz w0.heap.size 93 #[]) := Lib.hid ((Blk.new w0 93 #[]).drew.kept hbz)
         have HB := Lib.hid (bthen (bthen (kF w0 (.cells #[] 93)) (kE _)) hbz)
         have HWZ := Lib.hid hwz
         try clear hkk hkr hfz hl0 hl1
         have HK := Lib.hid (H.out.kept HB.out)
         have hkk : Blk wz w.heap.size 44 #[.bool on, .bool bad, .int .i64 t, .slice A2 ws.length c2, .slice A3 ns.length c3, .bool skip, .bool gone, .string inb] := SP.blk HK.out 0 rfl
         have hl0 := (SP.blk HK.out 0 rfl).lt
         have hl1 := (SP.blk HK.out 1 rfl).lt
         have hkr : wz.cell? ⟨w.heap.size + 1, 0, none⟩ = some (.bool false) ∧ wz.cell? ⟨w.heap.size + 1, 1, none⟩ = some (.bool false) ∧ wz.cell? ⟨w.heap.size + 1, 2, none⟩ = some (.int .i64 0) ∧ wz.cell? ⟨w.heap.size + 1, 3, none⟩ = some (.slice none 0 0) ∧ wz.cell? ⟨w.heap.size + 1, 4, none⟩ = some (.slice none 0 0) ∧ wz.cell? ⟨w.heap.size + 1, 5, none⟩ = some (.bool false) ∧ wz.cell? ⟨w.heap.size + 1, 6, none⟩ = some (.bool false) ∧ wz.cell? ⟨w.heap.size + 1, 7, none⟩ = some (.string ⟨#[]⟩) := ⟨(SP.blk HK.out 1 rfl).cell 0, (SP.blk HK.out 1 rfl).cell 1, (SP.blk HK.out 1 rfl).cell 2, (SP.blk HK.out 1 rfl).cell 3, (SP.blk HK.out 1 rfl).cell 4, (SP.blk HK.out 1 rfl).cell 5, (SP.blk HK.out 1 rfl).cell 6, (SP.blk HK.out 1 rfl).cell 7⟩
         have hfz : ∀ j, wz.frozen? ⟨w.heap.size + 1, j, none⟩ = false := fun j => (SP.blk HK.out 1 rfl).frozen j
         clear HK
         clear hwz hbz)
      | (go_at_call 49
         with_reducible show Calls _ _ _ (World.drew _) _
         refine (l4Copy_any on bad t A2 ws c2 w0.drew (SP.get (H.out.kept (kE w0)) 0 rfl)).mono ?_
         rintro e wz ⟨Az, cz, rfl, hwz, hbz⟩
         have HB := Lib.hid (bthen (kE w0) hbz)
         have HWZ := Lib.hid hwz
         try clear hkk hkr hfz hl0 hl1
         have HK := Lib.hid (H.out.kept HB.out)
         have hkk : Blk wz w.heap.size 44 #[.bool on, .bool bad, .int .i64 t, .slice A2 ws.length c2, .slice A3 ns.length c3, .bool skip, .bool gone, .string inb] := SP.blk HK.out 0 rfl
         have hl0 := (SP.blk HK.out 0 rfl).lt
         have hl1 := (SP.blk HK.out 1 rfl).lt
         have hkr : wz.cell? ⟨w.heap.size + 1, 0, none⟩ = some (.bool false) ∧ wz.cell? ⟨w.heap.size + 1, 1, none⟩ = some (.bool false) ∧ wz.cell? ⟨w.heap.size + 1, 2, none⟩ = some (.int .i64 0) ∧ wz.cell? ⟨w.heap.size + 1, 3, none⟩ = some (.slice none 0 0) ∧ wz.cell? ⟨w.heap.size + 1, 4, none⟩ = some (.slice none 0 0) ∧ wz.cell? ⟨w.heap.size + 1, 5, none⟩ = some (.bool false) ∧ wz.cell? ⟨w.heap.size + 1, 6, none⟩ = some (.bool false) ∧ wz.cell? ⟨w.heap.size + 1, 7, none⟩ = some (.string ⟨#[]⟩) := ⟨(SP.blk HK.out 1 rfl).cell 0, (SP.blk HK.out 1 rfl).cell 1, (SP.blk HK.out 1 rfl).cell 2, (SP.blk HK.out 1 rfl).cell 3, (SP.blk HK.out 1 rfl).cell 4, (SP.blk HK.out 1 rfl).cell 5, (SP.blk HK.out 1 rfl).cell 6, (SP.blk HK.out 1 rfl).cell 7⟩
         have hfz : ∀ j, wz.frozen? ⟨w.heap.size + 1, j, none⟩ = false := fun j => (SP.blk HK.out 1 rfl).frozen j
         clear HK
         clear hwz hbz)
      | (go_at_call 49
         with_reducible show Calls _ _ _ wa _
         refine (l4Copy_any on bad t A2 ws c2 wa (SP.get (H.out.kept HB.out) 0 rfl)).mono ?_
         rintro e wz ⟨Az, cz, rfl, hwz, hbz⟩
         have HB := Lib.hid (bthen HB.out hbz)
         have HWZ := Lib.hid hwz
         have HO : Hid (OwnN wz w0.heap.size _ ns) := Lib.hid (own_kept HO.out hbz)
         try clear hkk hkr hfz hl0 hl1
         have HK := Lib.hid (H.out.kept HB.out)
         have hkk : Blk wz w.heap.size 44 #[.bool on, .bool bad, .int .i64 t, .slice A2 ws.length c2, .slice A3 ns.length c3, .bool skip, .bool gone, .string inb] := SP.blk HK.out 0 rfl
         have hl0 := (SP.blk HK.out 0 rfl).lt
         have hl1 := (SP.blk HK.out 1 rfl).lt
         have hkr : wz.cell? ⟨w.heap.size + 1, 0, none⟩ = some (.bool false) ∧ wz.cell? ⟨w.heap.size + 1, 1, none⟩ = some (.bool false) ∧ wz.cell? ⟨w.heap.size + 1, 2, none⟩ = some (.int .i64 0) ∧ wz.cell? ⟨w.heap.size + 1, 3, none⟩ = some (.slice none 0 0) ∧ wz.cell? ⟨w.heap.size + 1, 4, none⟩ = some (.slice none 0 0) ∧ wz.cell? ⟨w.heap.size + 1, 5, none⟩ = some (.bool false) ∧ wz.cell? ⟨w.heap.size + 1, 6, none⟩ = some (.bool false) ∧ wz.cell? ⟨w.heap.size + 1, 7, none⟩ = some (.string ⟨#[]⟩) := ⟨(SP.blk HK.out 1 rfl).cell 0, (SP.blk HK.out 1 rfl).cell 1, (SP.blk HK.out 1 rfl).cell 2, (SP.blk HK.out 1 rfl).cell 3, (SP.blk HK.out 1 rfl).cell 4, (SP.blk HK.out 1 rfl).cell 5, (SP.blk HK.out 1 rfl).cell 6, (SP.blk HK.out 1 rfl).cell 7⟩
         have hfz : ∀ j, wz.frozen? ⟨w.heap.size + 1, j, none⟩ = false := fun j => (SP.blk HK.out 1 rfl).frozen j
         clear HK
         clear hwz hbz))
  all_goals
    have HZ := Lib.hid (SP.set (SP.set (SP.set (SP.set (SP.set (SP.set (SP.set (SP.set ((SP.add (SP.add (H.out.kept HB.out) (fun W => WK W Az ws) WK.c HWZ.out) (fun W => NK W An ns) NK.c (NK.of HO.out HNF.out.1 HNF.out.2))) 1 0 (.bool on) rfl (by decide)) 1 1 (.bool bad) rfl (by decide)) 1 2 (.int .i64 t) rfl (by decide)) 1 3 (.slice Az ws.length cz) rfl (by decide)) 1 4 (.slice An ns.length cn) rfl (by decide)) 1 5 (.bool skip) rfl (by decide)) 1 6 (.bool gone) rfl (by decide)) 1 7 (.string inb) rfl (by decide))
    clear H HB HWZ HO hB0 hB1 hB2 hB3 hB4 hB5 hB6 hB7
    go_wp2
    refine bodyPost_ret (v := .agg #[.bool on, .bool bad, .int .i64 t, .slice Az ws.length cz, .slice An ns.length cn, .bool skip, .bool gone, .string inb]) ?_ rfl ⟨Az, cz, An, cn, rfl, HZ.out.get 2 rfl, HZ.out.get 3 rfl, HZ.out.below⟩
    simp [results, Tryz.results28, go_sem, hkr]
end Go.Proofs.YtfmhhckkpenldaaGreatDoor
