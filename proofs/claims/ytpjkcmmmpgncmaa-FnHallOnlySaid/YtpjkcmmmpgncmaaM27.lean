import Derived.BigQuiet
import Derived.Deep.RegionLaw
import Derived.Test.YtpjkcmmmpgncmaaM10
import Derived.Deep.RegionHeld3
import Derived.Test.YtpjkcmmmpgncmaaM28
/- The reference on what one did: the last time of a key, a copy. -/
namespace Go.Proofs.Ytpjkcmmmpgncmaa
open Go.RowKit
def mx (a b : Int) : Int := if b < a then a else b
set_option maxRecDepth 100000 in
theorem l1Max_all (a b : Int) (w : World) :
    Calls Try.prog 84 #[.int .i64 a, .int .i64 b] w fun e w' => e = .returned (.int .i64 (mx a b)) ∧ Below w.heap.size w w' := by
  by_cases h : b < a
  · have d : decide (b < a) = true := decide_eq_true h
    go_enter Try.func84, Try.ntmps84
    go_wp2
    go_ret
    exact ⟨ret_int (by unfold mx; rw [if_pos h]), Below.refl _ _⟩
  · have d : decide (b < a) = false := decide_eq_false h
    go_enter Try.func84, Try.ntmps84
    go_wp2
    go_ret
    exact ⟨ret_int (by unfold mx; rw [if_neg (by omega)]), Below.refl _ _⟩
def lastF (K : ByteArray) (n : Int) (x : Ver) : Int := if (x.1.toList == K.toList) = true then mx n (mx x.2.2.1 x.2.2.2) else n
def lastN (l : List Ver) (K : ByteArray) : Int := l.foldl (lastF K) 0
theorem lastN_take {l : List Ver} {K : ByteArray} {k : Nat} (hk : k < l.length) : lastN (l.take (k + 1)) K = lastF K (lastN (l.take k) K) l[k] := by
  unfold lastN; rw [List.take_succ_eq_append_getElem hk, List.foldl_append]; rfl
set_option maxRecDepth 100000 in
set_option maxHeartbeats 2000000 in
theorem l2Last_any (A : Option Addr) (l : List Ver) (c : Nat) (now : Int) (K : ByteArray) (w : World) (hn : l.length ≤ 1048576) (hS : Sl encVer 4 w A l) :
    Calls Try.prog 235 #[.agg #[.int .i64 now, .slice A l.length c], .string K] w fun e w' => e = .returned (.int .i64 (lastN l K)) ∧ Below w.heap.size w w' := by
  have H0 := Lib.hid (Blk.new w 32 #[.int .i64 now, .slice A l.length c])
  have H1 := Lib.hid ((Below.refl w.heap.size w).alloc (Nat.le_refl _) (.cells #[.int .i64 now, .slice A l.length c] 32))
  go_enter Try.func235, Try.ntmps235
  go_wp2
  go_loopw [5, 6] (fun v i wr => ∃ k : Nat, k ≤ l.length ∧ i = .int .i64 k ∧ v = .int .i64 (lastN (l.take k) K) ∧ Hid (Blk wr w.heap.size 32 #[.int .i64 now, .slice A l.length c]) ∧ Hid (Below w.heap.size w wr)) (fun _ i _ => l.length - (intOf i).toNat)
  case atStart => exact ⟨0, by omega, rfl, rfl, H0, H1⟩
  case round =>
    clear H0 H1
    obtain ⟨k, hk, rfl, rfl, HB, HW⟩ := hrel
    have x1 : wr.cell? ⟨w.heap.size, 1, none⟩ = some (.slice A l.length c) := HB.out.cell 1
    have hxl := HB.out.lt
    by_cases hlt : k < l.length
    · obtain ⟨b, o, rfl, hbl, c0, c1, c2, c3⟩ := Sl.at4 (hS.below HW.out) hlt
      have HT := Lib.hid (lastN_take (K := K) hlt)
      generalize lastN (l.take k) K = n at *
      generalize l[k] = x at *
      obtain ⟨kk, m, fr, tv⟩ := x
      simp only at c0 c1 c2 c3
      have hki : (k : Int) < (l.length : Int) := by omega
      have hki0 : (0 : Int) ≤ (k : Int) := by omega
      clear c1 hS
      cases hq : (kk.toList == K.toList)
      · have HE := Lib.hid (show lastF K n (kk, m, fr, tv) = n by unfold lastF; rw [if_neg (by simp only; rw [hq]; simp)])
        go_wp2
        go_roundw
        case rel => exact ⟨k + 1, by omega, by go_num, by rw [HT.out, HE.out], HB, HW⟩
        case measure => simp [intOf]; omega
      · have HE := Lib.hid (show lastF K n (kk, m, fr, tv) = mx n (mx fr tv) by unfold lastF; rw [if_pos (by simp only; exact hq)])
        go_wp2_with fail
        refine wp_region_below (by kernel_rfl) (by kernel_rfl) ?_
        iterate 16 (refine wpQuiet_step (fun K hK => ?_); go_simp; first | (apply Exists.intro; refine ⟨fun W hW => ?_, hK _ ?_⟩; (first | rfl | (go_at_call 84; exact quiet_call hW (Nat.le_refl _) (l1Max_all _ _ W)) | (have y1 := (hW.cell (p := ⟨w.heap.size, 1, none⟩) hxl).trans x1; have y2 := (hW.cell (p := ⟨b, o + k * 4 + 2, none⟩) hbl).trans c2; have y3 := (hW.cell (p := ⟨b, o + k * 4 + 3, none⟩) hbl).trans c3; go_simp; rfl)); clear hK K) | (refine hK _ ?_; clear hK K))
        refine wpQuiet_nil ?_
        intro W hW
        have HB := Lib.hid (HB.out.kept hW)
        have HW := Lib.hid (bthen HW.out hW)
        clear hW x1 c0 c2 c3 hbl hxl hq
        go_wp2
        go_roundw
        case rel => exact ⟨k + 1, by omega, by go_num, by rw [HT.out, HE.out], HB, HW⟩
        case measure => simp [intOf]; omega
    · obtain rfl : k = l.length := by omega
      rw [List.take_length] at *
      go_wp2
      go_ret
      exact ⟨rfl, HW.out⟩
set_option maxRecDepth 100000 in
set_option maxHeartbeats 1000000 in
theorem l3Copy_any (A : Option Addr) (l : List Wri) (c : Nat) (now : Int) (w : World) (hn : l.length ≤ 1048576) (hR : Sl encWri 3 w A l) :
    Calls Try.prog 179 #[.agg #[.int .i64 now, .slice A l.length c]] w fun e w' => ∃ v, e = .returned (.agg #[.int .i64 now, v]) ∧ OwnW w' w.heap.size v l ∧ Below w.heap.size w w' := by
  obtain ⟨i0, hi, hz0, hz1, hz2⟩ := info_parts infoWri
  have HI := Lib.hid (⟨hi, hz0, hz1, hz2⟩ : _ ∧ _ ∧ _ ∧ _)
  clear hi hz0 hz1 hz2
  have hb0 := ((Below.refl w.heap.size w).alloc (Nat.le_refl _) (.cells #[.int .i64 now, .slice A l.length c] 76)).alloc (by simp) (.cells #[.int .i64 0, .slice none 0 0] 76)
  have hB1 := (Blk.new w 76 #[.int .i64 now, .slice A l.length c]).alloc (.cells #[.int .i64 0, .slice none 0 0] 76)
  have hB2 := Blk.new (w.alloc (.cells #[.int .i64 now, .slice A l.length c] 76)) 76 #[.int .i64 0, .slice none 0 0]
  have hsz : ((w.alloc (.cells #[.int .i64 now, .slice A l.length c] 76)).alloc (.cells #[.int .i64 0, .slice none 0 0] 76)).heap.size = w.heap.size + 2 := by simp
  rw [World.size_alloc] at hB2
  go_enter Try.func179, Try.ntmps179
  go_wp2_with fail
  generalize (w.alloc (.cells #[.int .i64 now, .slice A l.length c] 76)).alloc (.cells #[.int .i64 0, .slice none 0 0] 76) = w0 at *
  have x0 : w0.cell? ⟨w.heap.size, 0, none⟩ = some (.int .i64 now) := hB1.cell 0
  have x1 : w0.cell? ⟨w.heap.size, 1, none⟩ = some (.slice A l.length c) := hB1.cell 1
  have hbn := (Below.refl w0.heap.size w0).alloc (Nat.le_refl _) (.cells #[] 46)
  have ho := (own_of_blk (base := w0.heap.size) (n := 0) (k := 3) (xs := []) (Blk.new w0 46 #[]) (Nat.le_refl _) (Nat.zero_le _) rfl rfl)
  rw [hsz] at ho
  have HO := Lib.hid ho
  have HS := Lib.hid ((hR.below hb0).below hbn)
  have HB0 := Lib.hid hb0
  have HB2 := Lib.hid (hB2.kept hbn)
  have HB1 := Lib.hid (hB1.kept hbn)
  have HBn := Lib.hid hbn
  have hl1 : w.heap.size < w0.heap.size := by omega
  have hl2 : w.heap.size + 1 < w0.heap.size := by omega
  clear hb0 hB1 hB2 hbn hR ho
  have H63 := Lib.hid (show 0 + l.length ≤ maxLen by unfold maxLen; omega)
  have HBY := Lib.hid (show (0 + l.length) * 32 ≤ 140737488355328 by omega)
  have HBS := Lib.hid (show w.heap.size + 2 ≤ ((w0.alloc (.cells #[] 46)).drew).heap.size by simp; omega)
  have HO' := Lib.hid (show ((w0.alloc (.cells #[] 46)).drew).ownsRow (w.heap.size + 2) 46 3 (.slice (some ⟨w.heap.size + 2, 0, none⟩) 0 0) 0 [] from HO.out)
  have HS' := Lib.hid (show Sl encWri 3 ((w0.alloc (.cells #[] 46)).drew) A l from HS.out)
  have HB2' := Lib.hid (show Blk ((w0.alloc (.cells #[] 46)).drew) (w.heap.size + 1) 76 #[.int .i64 0, .slice none 0 0] from HB2.out)
  have HB1' := Lib.hid (show Blk ((w0.alloc (.cells #[] 46)).drew) w.heap.size 76 #[.int .i64 now, .slice A l.length c] from HB1.out)
  have HNE1 := Lib.hid (show some w.heap.size ≠ (Value.slice (some ⟨w.heap.size + 2, 0, none⟩) 0 0).ownBlock by simp [Value.ownBlock])
  have HNE := Lib.hid (show some (w.heap.size + 1) ≠ (Value.slice (some ⟨w.heap.size + 2, 0, none⟩) 0 0).ownBlock by simp [Value.ownBlock])
  go_region_law (refine step_append_sl (enc := encWri) rfl (.tmp 5) (.tmp 7) 41 rfl (w.heap.size + 2) 46 i0 (.agg #[.string ⟨#[]⟩, .int .i64 0, .bool false]) 3 32 Try.underlying41 HI.out.1 HI.out.2.1 HI.out.2.2.1 HI.out.2.2.2 rfl (by decide) (.slice (some ⟨w.heap.size + 2, 0, none⟩) 0 0) 0 [] (by simp [Act.eval]) HO'.out encWri_len A l c (by simp [Act.eval]) HS'.out (encWri_one l) H63.out HBY.out HBS.out ?_; intro v' w' hown hgrow; have ho : OwnW w' (w.heap.size + 2) v' l := ownW_of hown; obtain ⟨A', c', rfl, _, _, hS'⟩ := ho.sl; have HOW := Lib.hid ho; have HG := Lib.hid hgrow; have hB := HB2'.out.grown hgrow HNE.out; have y2 : w'.cell? ⟨w.heap.size, 0, none⟩ = some (.int .i64 now) := (HB1'.out.grown hgrow HNE1.out).cell 0; have y0 : w'.cell? ⟨w.heap.size + 1, 0, none⟩ = some (.int .i64 0) := hB.cell 0; have y1 : w'.cell? ⟨w.heap.size + 1, 1, none⟩ = some (.slice none 0 0) := hB.cell 1; have z0 := hB.frozen 0; have z1 := hB.frozen 1; have HBB := Lib.hid hB; clear hown hgrow hS' ho hB)
  all_goals
    have hbf : Below w.heap.size w w' := by
      have h1 := HB0.out.trans (HBn.out.mono (by omega))
      have h2 := h1.drew
      exact below_own h2 HG.out (by simp; omega) (fun k hk => by simp [Value.ownBlock] at hk; omega)
    have HOW2 := Lib.hid (own_set (own_set HOW.out (p := ⟨w.heap.size + 1, 0, none⟩) (by simp) (.int .i64 now)) (p := ⟨w.heap.size + 1, 1, none⟩) (by simp) (.slice A' l.length c'))
    obtain ⟨q0, q1⟩ := HBB.out.two (.int .i64 now) (.slice A' l.length c')
    go_wp2
    refine bodyPost_ret (v := .agg #[.int .i64 now, .slice A' l.length c']) (by simp [results, Try.results179, go_sem, q0, q1]) rfl ⟨_, rfl, Go.Joins.ownsRow_le HOW2.out (by omega), (hbf.setCell (by simp) _).setCell (by simp) _⟩
end Go.Proofs.Ytpjkcmmmpgncmaa
/- The reference on what one did: new, right, its rows. -/
namespace Go.Proofs.Ytpjkcmmmpgncmaa
open Go.RowKit
set_option maxRecDepth 100000 in
set_option maxHeartbeats 2000000 in
theorem workNew_any (A : Option Addr) (l : List Ver) (c : Nat) (now : Int) (w : World) (hV : VK w now A l) :
    Calls Try.prog 215 #[.agg #[.int .i64 now, .slice A l.length c]] w fun e w' => ∃ (t : Int) (A' : Option Addr), e = .returned (.agg #[.int .i64 t, .slice A' 0 0]) ∧ Below w.heap.size w w' := by
  have hb0 := ((Below.refl w.heap.size w).alloc (Nat.le_refl _) (.cells #[.int .i64 now, .slice A l.length c] 32)).alloc (by simp) (.cells #[.int .i64 0, .slice none 0 0] 76)
  have hB1 := (Blk.new w 32 #[.int .i64 now, .slice A l.length c]).alloc (.cells #[.int .i64 0, .slice none 0 0] 76)
  have hB2 := Blk.new (w.alloc (.cells #[.int .i64 now, .slice A l.length c] 32)) 76 #[.int .i64 0, .slice none 0 0]
  rw [World.size_alloc] at hB2
  go_enter Try.func215, Try.ntmps215
  go_wp2_with fail
  generalize (w.alloc (.cells #[.int .i64 now, .slice A l.length c] 32)).alloc (.cells #[.int .i64 0, .slice none 0 0] 76) = w0 at *
  refine (specVersOk_any A l c now w0 hV.2.1 (by have := hV.2.2.1; omega) (hV.sl.below hb0)).mono ?_
  rintro e w1 ⟨rfl, hb1⟩
  have hbw1 := bthen hb0 hb1
  cases hv : versB now l
  · have hB21 := hB2.kept hb1
    have z0 := hB21.frozen 0
    have z1 := hB21.frozen 1
    have x0 : w1.cell? ⟨w.heap.size + 1, 0, none⟩ = some (.int .i64 0) := hB21.cell 0
    have x1 : w1.cell? ⟨w.heap.size + 1, 1, none⟩ = some (.slice none 0 0) := hB21.cell 1
    obtain ⟨q0, q1⟩ := hB21.two (.int .i64 0) (.slice none 0 0)
    go_wp2
    refine bodyPost_ret (v := .agg #[.int .i64 0, .slice none 0 0]) (by simp [results, Try.results215, go_sem, q0, q1]) rfl ⟨_, _, rfl, (hbw1.setCell (by simp) _).setCell (by simp) _⟩
  · have hba := kA w1 (.cells #[] 46)
    have hB21 := (hB2.kept hb1).kept hba
    have hB11 := hB1.kept hb1
    have hl1 := hB11.lt
    have z0 := hB21.frozen 0
    have z1 := hB21.frozen 1
    have r0 : w1.cell? ⟨w.heap.size, 0, none⟩ = some (.int .i64 now) := hB11.cell 0
    have x0 : (w1.alloc (.cells #[] 46)).cell? ⟨w.heap.size + 1, 0, none⟩ = some (.int .i64 0) := hB21.cell 0
    have x1 : (w1.alloc (.cells #[] 46)).cell? ⟨w.heap.size + 1, 1, none⟩ = some (.slice none 0 0) := hB21.cell 1
    obtain ⟨q0, q1⟩ := hB21.two (.int .i64 now) (.slice (some ⟨w1.heap.size, 0, none⟩) 0 0)
    have hbw2 := bthen hbw1 hba
    go_wp2
    refine bodyPost_ret (v := .agg #[.int .i64 now, .slice (some ⟨w1.heap.size, 0, none⟩) 0 0]) (by simp [results, Try.results215, go_sem, q0, q1]) rfl ⟨_, _, rfl, (hbw2.setCell (by simp) _).setCell (by simp) _⟩
/-- when what one did is right -/
noncomputable def workB (now : Int) (l : List Ver) (t : Int) (ws : List Wri) : Bool := versB now l && (decide (0 ≤ t) && (decide (t ≤ now) && (wrsB 6 ws && rowsB (rowsN (atL l t) ws))))
theorem atL_size {l : List Ver} {t : Int} (hf : FitsV l) : ∀ x ∈ atL l t, x.1.size ≤ maxLen := by
  intro x hx
  unfold atL at hx
  obtain ⟨y, hy, rfl⟩ := List.mem_map.1 hx
  exact hf.2 y (List.mem_filter.1 hy).1
/-- the two boxes of a store and of what one did -/
def BX2 (g : Nat) (now : Int) (A : Option Addr) (l : List Ver) (c : Nat) (t : Int) (A2 : Option Addr) (ws : List Wri) (c2 : Nat) (W : World) : Prop :=
  Blk W g 32 #[.int .i64 now, .slice A l.length c] ∧ Blk W (g + 1) 76 #[.int .i64 t, .slice A2 ws.length c2] ∧ VK W now A l ∧ WK W A2 ws
theorem BX2.kept {g : Nat} {now : Int} {A : Option Addr} {l : List Ver} {c : Nat} {t : Int} {A2 : Option Addr} {ws : List Wri} {c2 : Nat} {W W' : World} (h : BX2 g now A l c t A2 ws c2 W) (hb : Below W.heap.size W W') : BX2 g now A l c t A2 ws c2 W' :=
  ⟨h.1.kept hb, h.2.1.kept hb, h.2.2.1.kp (Kp.below hb), h.2.2.2.kp (Kp.below hb)⟩
theorem BX2.new {w : World} {now : Int} {A : Option Addr} {l : List Ver} {c : Nat} {t : Int} {A2 : Option Addr} {ws : List Wri} {c2 : Nat} (hV : VK w now A l) (hW : WK w A2 ws) :
    BX2 w.heap.size now A l c t A2 ws c2 ((w.alloc (.cells #[.int .i64 now, .slice A l.length c] 32)).alloc (.cells #[.int .i64 t, .slice A2 ws.length c2] 76)) := by
  have hb := bthen (kA w (.cells #[.int .i64 now, .slice A l.length c] 32)) (kA _ (.cells #[.int .i64 t, .slice A2 ws.length c2] 76))
  have h2 := Blk.new (w.alloc (.cells #[.int .i64 now, .slice A l.length c] 32)) 76 #[.int .i64 t, .slice A2 ws.length c2]
  rw [World.size_alloc] at h2
  exact ⟨(Blk.new w _ _).alloc _, h2, hV.kp (Kp.below hb), hW.kp (Kp.below hb)⟩
set_option maxRecDepth 100000 in
set_option maxHeartbeats 8000000 in
theorem workOk_any (A : Option Addr) (l : List Ver) (c : Nat) (now : Int) (t : Int) (A2 : Option Addr) (ws : List Wri) (c2 : Nat) (w : World) (hV : VK w now A l) (hW : WK w A2 ws) :
    Calls Try.prog 229 #[.agg #[.int .i64 now, .slice A l.length c], .agg #[.int .i64 t, .slice A2 ws.length c2]] w fun e w' => e = .returned (.bool (workB now l t ws)) ∧ Below w.heap.size w w' := by
  have hl : l.length ≤ 60 := hV.2.2.1
  have hw8 : ws.length ≤ 8 := hW.2.2
  have HX := Lib.hid (BX2.new (c := c) (t := t) (c2 := c2) hV hW)
  have HB := Lib.hid (bthen (kA w (.cells #[.int .i64 now, .slice A l.length c] 32)) (kA _ (.cells #[.int .i64 t, .slice A2 ws.length c2] 76)))
  have hsz : w.heap.size + 1 < ((w.alloc (.cells #[.int .i64 now, .slice A l.length c] 32)).alloc (.cells #[.int .i64 t, .slice A2 ws.length c2] 76)).heap.size := by simp
  clear hV hW
  go_enter Try.func229, Try.ntmps229
  go_wp2_with fail
  generalize (w.alloc (.cells #[.int .i64 now, .slice A l.length c] 32)).alloc (.cells #[.int .i64 t, .slice A2 ws.length c2] 76) = w0 at *
  have x0 : w0.cell? ⟨w.heap.size, 0, none⟩ = some (.int .i64 now) := HX.out.1.cell 0
  have x1 : w0.cell? ⟨w.heap.size, 1, none⟩ = some (.slice A l.length c) := HX.out.1.cell 1
  have x2 : w0.cell? ⟨w.heap.size + 1, 0, none⟩ = some (.int .i64 t) := HX.out.2.1.cell 0
  have x3 : w0.cell? ⟨w.heap.size + 1, 1, none⟩ = some (.slice A2 ws.length c2) := HX.out.2.1.cell 1
  have hg : w.heap.size < w0.heap.size := by omega
  cases hv : versB now l
  · have HE := Lib.hid (show workB now l t ws = false by unfold workB; rw [hv]; rfl)
    refine wp_region_below (by kernel_rfl) (by kernel_rfl) ?_
    iterate 30 (first | go_big_quiet_skip | (refine wpQuiet_step (fun K hK => ?_); go_simp; first | (apply Exists.intro; refine ⟨fun W hW => ?_, hK _ ?_⟩; (first | rfl | (go_at_call 28; exact quiet_call hW (Nat.le_refl _) (specVersOk_any A l c now W HX.out.2.2.1.2.1 (by omega) (HX.out.kept hW).2.2.1.sl)) | (have y0 := (hW.cell (p := ⟨w.heap.size, 0, none⟩) hg).trans x0; have y1 := (hW.cell (p := ⟨w.heap.size, 1, none⟩) hg).trans x1; go_simp; rfl)); clear hK K) | (refine hK _ ?_; clear hK K)))
    refine wpQuiet_nil ?_
    intro W hW
    have HB := Lib.hid (bthen HB.out hW)
    go_wp2
    go_ret
    exact ⟨ret_bool HE.out.symm, HB.out⟩
  by_cases ht : 0 ≤ t
  case neg =>
    have d0 : decide ((0 : Int) ≤ t) = false := decide_eq_false ht
    have HE := Lib.hid (show workB now l t ws = false by unfold workB; rw [hv, d0]; rfl)
    have HV := Lib.hid hv
    refine wp_region_below (by kernel_rfl) (by kernel_rfl) ?_
    iterate 30 (first | go_big_quiet_skip | (refine wpQuiet_step (fun K hK => ?_); go_simp; first | (apply Exists.intro; refine ⟨fun W hW => ?_, hK _ ?_⟩; (first | rfl | (go_at_call 28; exact quiet_call hW (Nat.le_refl _) (HV.out ▸ specVersOk_any A l c now W HX.out.2.2.1.2.1 (by omega) (HX.out.kept hW).2.2.1.sl)) | (have y0 := (hW.cell (p := ⟨w.heap.size, 0, none⟩) hg).trans x0; have y1 := (hW.cell (p := ⟨w.heap.size, 1, none⟩) hg).trans x1; have y2 := (hW.cell (p := ⟨w.heap.size + 1, 0, none⟩) hsz).trans x2; have y3 := (hW.cell (p := ⟨w.heap.size + 1, 1, none⟩) hsz).trans x3; go_simp; rfl)); clear hK K) | (refine hK _ ?_; clear hK K)))
    refine wpQuiet_nil ?_
    intro W hW
    have HB := Lib.hid (bthen HB.out hW)
    go_wp2
    go_ret
    exact ⟨ret_bool HE.out.symm, HB.out⟩
  have d0 : decide ((0 : Int) ≤ t) = true := decide_eq_true ht
  by_cases ht2 : t ≤ now
  case neg =>
    have d1 : decide (t ≤ now) = false := decide_eq_false ht2
    have HE := Lib.hid (show workB now l t ws = false by unfold workB; rw [hv, d0, d1]; rfl)
    have HV := Lib.hid hv
    refine wp_region_below (by kernel_rfl) (by kernel_rfl) ?_
    iterate 30 (first | go_big_quiet_skip | (refine wpQuiet_step (fun K hK => ?_); go_simp; first | (apply Exists.intro; refine ⟨fun W hW => ?_, hK _ ?_⟩; (first | rfl | (go_at_call 28; exact quiet_call hW (Nat.le_refl _) (HV.out ▸ specVersOk_any A l c now W HX.out.2.2.1.2.1 (by omega) (HX.out.kept hW).2.2.1.sl)) | (have y0 := (hW.cell (p := ⟨w.heap.size, 0, none⟩) hg).trans x0; have y1 := (hW.cell (p := ⟨w.heap.size, 1, none⟩) hg).trans x1; have y2 := (hW.cell (p := ⟨w.heap.size + 1, 0, none⟩) hsz).trans x2; have y3 := (hW.cell (p := ⟨w.heap.size + 1, 1, none⟩) hsz).trans x3; go_simp; rfl)); clear hK K) | (refine hK _ ?_; clear hK K)))
    refine wpQuiet_nil ?_
    intro W hW
    have HB := Lib.hid (bthen HB.out hW)
    go_wp2
    go_ret
    exact ⟨ret_bool HE.out.symm, HB.out⟩
  have d1 : decide (t ≤ now) = true := decide_eq_true ht2
  cases hw : wrsB 6 ws
  · have HE := Lib.hid (show workB now l t ws = false by unfold workB; rw [hv, d0, d1, hw]; rfl)
    have HV := Lib.hid (⟨hv, hw⟩ : _ ∧ _)
    refine wp_region_below (by kernel_rfl) (by kernel_rfl) ?_
    iterate 30 (first | go_big_quiet_skip | (refine wpQuiet_step (fun K hK => ?_); go_simp; first | (apply Exists.intro; refine ⟨fun W hW => ?_, hK _ ?_⟩; (first | rfl | (go_at_call 28; exact quiet_call hW (Nat.le_refl _) (HV.out.1 ▸ specVersOk_any A l c now W HX.out.2.2.1.2.1 (by omega) (HX.out.kept hW).2.2.1.sl)) | (go_at_call 107; exact quiet_call hW (Nat.le_refl _) (HV.out.2 ▸ specWritesOk_any A2 ws c2 W HX.out.2.2.2.2.1 (by omega) (HX.out.kept hW).2.2.2.sl)) | (have y0 := (hW.cell (p := ⟨w.heap.size, 0, none⟩) hg).trans x0; have y1 := (hW.cell (p := ⟨w.heap.size, 1, none⟩) hg).trans x1; have y2 := (hW.cell (p := ⟨w.heap.size + 1, 0, none⟩) hsz).trans x2; have y3 := (hW.cell (p := ⟨w.heap.size + 1, 1, none⟩) hsz).trans x3; go_simp; rfl)); clear hK K) | (refine hK _ ?_; clear hK K)))
    refine wpQuiet_nil ?_
    intro W hW
    have HB := Lib.hid (bthen HB.out hW)
    go_wp2
    go_ret
    exact ⟨ret_bool HE.out.symm, HB.out⟩
  have HE := Lib.hid (show workB now l t ws = rowsB (rowsN (atL l t) ws) by unfold workB; rw [hv, d0, d1, hw]; simp)
  have HX := Lib.hid (HX.out.kept (kD w0))
  have HB := Lib.hid (bthen HB.out (kD w0))
  have hal : (atL l t).length ≤ 60 := by have := atL_le l t; omega
  go_region_held3 (fun W => W.cell? ⟨w.heap.size, 0, none⟩ = some (.int .i64 now) ∧ W.cell? ⟨w.heap.size, 1, none⟩ = some (.slice A l.length c) ∧ W.cell? ⟨w.heap.size + 1, 0, none⟩ = some (.int .i64 t) ∧ W.cell? ⟨w.heap.size + 1, 1, none⟩ = some (.slice A2 ws.length c2))
    (first | assumption | go_keep)
    (first
      | (go_at_call 28
         refine (specVersOk_any A l c now _ HX.out.2.2.1.2.1 (by omega) HX.out.2.2.1.sl).mono ?_
         rintro e wk ⟨rfl, hbk⟩
         have HX := Lib.hid (HX.out.kept hbk)
         have HB := Lib.hid (bthen HB.out hbk)
         have hkk : wk.cell? ⟨w.heap.size, 0, none⟩ = some (.int .i64 now) ∧ wk.cell? ⟨w.heap.size, 1, none⟩ = some (.slice A l.length c) ∧ wk.cell? ⟨w.heap.size + 1, 0, none⟩ = some (.int .i64 t) ∧ wk.cell? ⟨w.heap.size + 1, 1, none⟩ = some (.slice A2 ws.length c2) := ⟨HX.out.1.cell 0, HX.out.1.cell 1, HX.out.2.1.cell 0, HX.out.2.1.cell 1⟩
         clear hbk)
      | (go_at_call 107
         refine (specWritesOk_any A2 ws c2 _ HX.out.2.2.2.2.1 (by omega) HX.out.2.2.2.sl).mono ?_
         rintro e wk ⟨rfl, hbk⟩
         have HX := Lib.hid (HX.out.kept hbk)
         have HB := Lib.hid (bthen HB.out hbk)
         have hkk : wk.cell? ⟨w.heap.size, 0, none⟩ = some (.int .i64 now) ∧ wk.cell? ⟨w.heap.size, 1, none⟩ = some (.slice A l.length c) ∧ wk.cell? ⟨w.heap.size + 1, 0, none⟩ = some (.int .i64 t) ∧ wk.cell? ⟨w.heap.size + 1, 1, none⟩ = some (.slice A2 ws.length c2) := ⟨HX.out.1.cell 0, HX.out.1.cell 1, HX.out.2.1.cell 0, HX.out.2.1.cell 1⟩
         clear hbk)
      | (go_at_call 60
         refine (l2At_any A l c now t _ (by omega) HX.out.2.2.1.sl).mono ?_
         rintro e wk ⟨va, rfl, hoa, hbk⟩
         obtain ⟨Aa, ca, rfl, _, _, _⟩ := OwnR.sl (l := atL l t) hoa
         have HO := Lib.hid hoa
         have HX := Lib.hid (HX.out.kept hbk)
         have HB := Lib.hid (bthen HB.out hbk)
         have hkk : wk.cell? ⟨w.heap.size, 0, none⟩ = some (.int .i64 now) ∧ wk.cell? ⟨w.heap.size, 1, none⟩ = some (.slice A l.length c) ∧ wk.cell? ⟨w.heap.size + 1, 0, none⟩ = some (.int .i64 t) ∧ wk.cell? ⟨w.heap.size + 1, 1, none⟩ = some (.slice A2 ws.length c2) := ⟨HX.out.1.cell 0, HX.out.1.cell 1, HX.out.2.1.cell 0, HX.out.2.1.cell 1⟩
         clear hbk hoa)
      | (go_at_call 230
         refine (l3Rows_any _ Aa (atL l t) ca A2 ws c2 _ (by omega) (by omega) HO.out HX.out.2.2.2.sl).mono ?_
         rintro e wk ⟨Ar, cr, Br, rfl, hor, hbk⟩
         have HR := Lib.hid hor
         have HX := Lib.hid (HX.out.kept hbk)
         have HB := Lib.hid (bthen HB.out hbk)
         have hkk : wk.cell? ⟨w.heap.size, 0, none⟩ = some (.int .i64 now) ∧ wk.cell? ⟨w.heap.size, 1, none⟩ = some (.slice A l.length c) ∧ wk.cell? ⟨w.heap.size + 1, 0, none⟩ = some (.int .i64 t) ∧ wk.cell? ⟨w.heap.size + 1, 1, none⟩ = some (.slice A2 ws.length c2) := ⟨HX.out.1.cell 0, HX.out.1.cell 1, HX.out.2.1.cell 0, HX.out.2.1.cell 1⟩
         clear hbk hor)
      | (go_at_call 237
         refine (specRowsOk_any Ar (rowsN (atL l t) ws) cr _ (rowsN_size ws _ (atL_size HX.out.2.2.1.2.1) HX.out.2.2.2.2.1.2) (by have := rowsN_len ws (atL l t); omega) HR.out.reads).mono ?_
         rintro e wk ⟨rfl, hbk⟩
         have HX := Lib.hid (HX.out.kept hbk)
         have HB := Lib.hid (bthen HB.out hbk)
         have hkk : wk.cell? ⟨w.heap.size, 0, none⟩ = some (.int .i64 now) ∧ wk.cell? ⟨w.heap.size, 1, none⟩ = some (.slice A l.length c) ∧ wk.cell? ⟨w.heap.size + 1, 0, none⟩ = some (.int .i64 t) ∧ wk.cell? ⟨w.heap.size + 1, 1, none⟩ = some (.slice A2 ws.length c2) := ⟨HX.out.1.cell 0, HX.out.1.cell 1, HX.out.2.1.cell 0, HX.out.2.1.cell 1⟩
         clear hbk))
  all_goals
    go_wp2
    go_ret
    exact ⟨ret_bool HE.out.symm, HB.out⟩
end Go.Proofs.Ytpjkcmmmpgncmaa
