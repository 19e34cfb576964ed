/- The program's commit: right writes done to a store. -/
import Derived.Test.YtpjkcmmmpgncmaaSrch
import Derived.Test.YtpjkcmmmpgncmaaClone
import Derived.Test.YtpjkcmmmpgncmaaInsC
import Derived.Laws.OwnMore
namespace Go.Proofs.Ytpjkcmmmpgncmaa
open Go.RowKit
theorem set_flat (now : Int) : ∀ (l : List Ver) (m : Nat) (y : Ver), l[m]? = some y → (l.flatMap encVer).set (m * 4 + 3) (.int .i64 now) = (l.set m (y.1, y.2.1, y.2.2.1, now)).flatMap encVer
  | [], _, _, h => by simp at h
  | x :: l, 0, y, h => by simp at h; subst h; simp [encVer]
  | x :: l, m + 1, y, h => by
    have ih := set_flat now l m y (by simpa using h)
    rw [List.set_cons_succ, List.flatMap_cons, List.flatMap_cons, ← ih]
    have h4 : (encVer x).length = 4 := rfl
    rw [List.set_append_right _ _ (by omega), h4]
    congr 2
    omega
theorem closeV_same {key : ByteArray} {now : Int} {x : Ver} (h : ¬ (x.1 = key ∧ x.2.2.2 = 0)) : closeV key now x = x := if_neg h
theorem close_zero {key : ByteArray} {now : Int} {l : List Ver} (hO : Ordd l) (hP : Parts key l 0) : closeL key now l = l := (close_same hO hP).symm
theorem close_no {key : ByteArray} {now : Int} {l : List Ver} {m : Nat} {y : Ver} (hO : Ordd l) (hP : Parts key l (m + 1)) (hy : l[m]? = some y) (h : ¬ (y.1 = key ∧ y.2.2.2 = 0)) : closeL key now l = l := by
  rw [← close_same hO hP]
  unfold closeI
  simp only [hy]
  rw [closeV_same h]
  obtain ⟨hm, e⟩ := List.getElem?_eq_some_iff.1 hy
  subst e
  exact List.set_getElem_self hm
theorem close_yes {key : ByteArray} {now : Int} {l : List Ver} {m : Nat} {y : Ver} (hO : Ordd l) (hP : Parts key l (m + 1)) (hy : l[m]? = some y) (h : y.1 = key ∧ y.2.2.2 = 0) : closeL key now l = l.set m (y.1, y.2.1, y.2.2.1, now) := by
  rw [← close_same hO hP]
  unfold closeI
  simp only [hy]
  unfold closeV
  rw [if_pos h]
theorem doS_take {now : Int} {l : List Ver} {ws : List Wri} {k : Nat} (h : k < ws.length) : doS now l (ws.take (k + 1)) = writeS now (doS now l (ws.take k)) ws[k] := by
  unfold doS
  rw [List.take_succ_eq_append_getElem h, List.foldl_append]; rfl
theorem doS_ordd {now : Int} (hn : now ≠ 0) : ∀ (ws : List Wri) (l : List Ver), Ordd l → Ordd (doS now l ws)
  | [], _, h => h
  | w :: ws, l, h => doS_ordd hn ws (writeS now l w) (write_ordd hn h)
theorem doS_len (now : Int) : ∀ (ws : List Wri) (l : List Ver), (doS now l ws).length ≤ l.length + ws.length
  | [], _ => Nat.le_refl _
  | w :: ws, l => by
    have h := doS_len now ws (writeS now l w)
    have h2 := writeS_len now l w
    show (doS now (writeS now l w) ws).length ≤ _
    rw [List.length_cons]; omega
theorem doS_fits {now : Int} : ∀ (ws : List Wri) (l : List Ver), (∀ x ∈ l, x.1.size ≤ maxLen) → (∀ x ∈ ws, x.1.size ≤ maxLen) → ∀ x ∈ doS now l ws, x.1.size ≤ maxLen
  | [], _, h, _ => h
  | w :: ws, l, h, h2 => doS_fits ws (writeS now l w) (writeS_fits h (h2 w List.mem_cons_self)) (fun x hx => h2 x (List.mem_cons_of_mem _ hx))
theorem write_eq {now : Int} {l : List Ver} {w : Wri} {e : Nat} (hP : Parts w.1 l e) : writeS now l w = insV (closeL w.1 now l) e w now := by unfold writeS; rw [parts_at hP]
theorem own_ne {w : World} {B g : Nat} {v : Value} {l : List Ver} {cs : Array Value} (h : OwnV w B v l) (hb : Blk w g 32 cs) : some g ≠ v.ownBlock := by
  rcases h.2 with ⟨rfl, _⟩ | ⟨g', cap, cur, rfl, _, hg, _⟩
  · simp [Value.ownBlock]
  · intro e
    simp [Value.ownBlock] at e
    subst e
    unfold Blk at hb
    rw [hb] at hg
    simp at hg
theorem own_neW {w : World} {B g : Nat} {v : Value} {l : List Ver} {cs : Array Value} (h : OwnV w B v l) (hb : Blk w g 46 cs) : some g ≠ v.ownBlock := by
  rcases h.2 with ⟨rfl, _⟩ | ⟨g', cap, cur, rfl, _, hg, _⟩
  · simp [Value.ownBlock]
  · intro e
    simp [Value.ownBlock] at e
    subst e
    unfold Blk at hb
    rw [hb] at hg
    simp at hg
theorem own_row {w : World} {B : Nat} {A : Option Addr} {c : Nat} {l : List Ver} (h : OwnV w B (.slice A l.length c) l) {m : Nat} (hm : m < l.length) :
    ∃ g, A = some ⟨g, 0, none⟩ ∧ g < w.heap.size ∧ w.cell? ⟨g, m * 4, none⟩ = some (.string l[m].1) ∧ w.cell? ⟨g, m * 4 + 3, none⟩ = some (.int .i64 l[m].2.2.2) := by
  obtain ⟨A', c', e, _, _, hS⟩ := h.sl
  injection e with e1 e2 e3
  subst e1
  rcases h.2 with ⟨h2, h3⟩ | ⟨g, cap, cur, h2, h3, h4, _⟩
  · omega
  · injection h2 with h5 h6 h7
    subst h5
    obtain ⟨b, o, hA, hb, c0, _, _, c3⟩ := Sl.at4 hS hm
    simp at hA
    obtain ⟨rfl, rfl⟩ := hA
    exact ⟨g, rfl, hb, by simpa using c0, by simpa using c3⟩
theorem own_set4 {w : World} {B : Nat} {v : Value} {l : List Ver} {m : Nat} {now : Int} (h : w.ownsRow B 88 4 v l.length ((l.flatMap encVer).set (m * 4 + 3) (.int .i64 now))) (y : Ver) (hy : l[m]? = some y) : OwnV w B v (l.set m (y.1, y.2.1, y.2.2.1, now)) := by
  unfold OwnV
  rw [List.length_set, ← set_flat now l m y hy]
  exact h
/-- how it stands between two writes -/
def Cm (w : World) (B g5 : Nat) (now1 : Int) (L : List Ver) (W : World) : Prop :=
  ∃ v, OwnV W B v L ∧ Blk W g5 32 #[.int .i64 now1, v] ∧ Below w.heap.size w W
set_option maxRecDepth 100000 in
set_option maxHeartbeats 600000 in
theorem commit_any (A A2 : Option Addr) (l : List Ver) (ws : List Wri) (c c2 : Nat) (now : Int) (w : World) (hl : l.length ≤ 400) (hws : ws.length ≤ 400) (hn0 : 0 ≤ now) (hn1 : now ≤ 1000) (hO : Ordd l) (hR : Sl encVer 4 w A l) (hR2 : Sl encWri 3 w A2 ws) :
    Calls Try.prog 57 #[.agg #[.int .i64 now, .slice A l.length c], .slice A2 ws.length c2] w fun e w' => ∃ v, e = .returned (.agg #[.int .i64 (now + 1), v]) ∧ OwnV w' w.heap.size v (doS (now + 1) l ws) ∧ Below w.heap.size w w' := by
  have hb0 := ((Below.refl w.heap.size w).alloc (Nat.le_refl _) (.cells #[.int .i64 now, .slice A l.length c] 32)).alloc (by simp) (.cells #[.int .i64 0, .slice none 0 0] 32)
  have hB1 := (Blk.new w 32 #[.int .i64 now, .slice A l.length c]).alloc (.cells #[.int .i64 0, .slice none 0 0] 32)
  have hB2 := Blk.new (w.alloc (.cells #[.int .i64 now, .slice A l.length c] 32)) 32 #[.int .i64 0, .slice none 0 0]
  have hsz : ((w.alloc (.cells #[.int .i64 now, .slice A l.length c] 32)).alloc (.cells #[.int .i64 0, .slice none 0 0] 32)).heap.size = w.heap.size + 2 := by simp
  rw [World.size_alloc] at hB2
  have hn3 : IntKind.i64.wrap (now + 1) = now + 1 := by rw [IntKind.wrap_i64]; omega
  have HO := Lib.hid hO
  have HDO := Lib.hid (fun k => doS_ordd (now := now + 1) (by omega) (ws.take k) l hO)
  have HDL := Lib.hid (fun k => doS_len (now + 1) (ws.take k) l)
  clear hO
  go_enter Try.func57, Try.ntmps57
  go_wp2_with fail
  generalize (w.alloc (.cells #[.int .i64 now, .slice A l.length c] 32)).alloc (.cells #[.int .i64 0, .slice none 0 0] 32) = w0 at *
  refine (clone_any A l c now w0 (by omega) (hR.below hb0)).mono ?_
  rintro e w1 ⟨v0, rfl, hown0, hb1⟩
  obtain ⟨A0, c0, rfl, _, _, hS0⟩ := hown0.sl
  clear hS0
  have hs1 := hb1.size
  have hB3 := Blk.new w1 32 #[.int .i64 now, .slice A0 l.length c0]
  have hown1 : OwnV (w1.alloc (.cells #[.int .i64 now, .slice A0 l.length c0] 32)) (w.heap.size + 2) (.slice A0 l.length c0) l := hsz ▸ hown0.alloc _
  have hb2 := (hb0.trans (hb1.mono (by omega))).alloc (by omega) (.cells #[.int .i64 now, .slice A0 l.length c0] 32)
  have hB2' := (hB2.kept hb1).alloc (.cells #[.int .i64 now, .slice A0 l.length c0] 32)
  have hs2 : (w1.alloc (.cells #[.int .i64 now, .slice A0 l.length c0] 32)).heap.size = w1.heap.size + 1 := by simp
  have r0 : (w1.alloc (.cells #[.int .i64 now, .slice A0 l.length c0] 32)).cell? ⟨w1.heap.size, 0, none⟩ = some (.int .i64 now) := hB3.cell 0
  have r1 := hB3.frozen 0
  generalize hW2 : w1.alloc (.cells #[.int .i64 now, .slice A0 l.length c0] 32) = w2 at *
  clear hB1 hB2 hown0 hb1
  have HCM := Lib.hid (show Cm w (w.heap.size + 2) w1.heap.size (now + 1) l (w2.setCell ⟨w1.heap.size, 0, none⟩ (.int .i64 (now + 1))) from ⟨.slice A0 l.length c0, ownsRow_setCell_other hown1 (Ne.symm (own_ne hown1 hB3)) _, hB3.set_ 0 _, hb2.setCell (by simp; omega) _⟩)
  have HB4 := Lib.hid (hB2'.far (p := ⟨w1.heap.size, 0, none⟩) (by simp; omega) (.int .i64 (now + 1)))
  go_wp2
  clear hW2 hB3 hown1 hb2 hB2' hs2 r0 r1
  have hg5 : w.heap.size + 2 ≤ w1.heap.size := by omega
  generalize w1.heap.size = g5 at *
  generalize w2.setCell ⟨g5, 0, none⟩ (.int .i64 (now + 1)) = w3 at *
  go_loopw [17] (fun i wr => ∃ k : Nat, k ≤ ws.length ∧ i = .int .i64 k ∧ Hid (Cm w (w.heap.size + 2) g5 (now + 1) (doS (now + 1) l (ws.take k)) wr) ∧ Hid (Blk wr (w.heap.size + 1) 32 #[.int .i64 0, .slice none 0 0])) (fun i _ => ws.length - (intOf i).toNat)
  case atStart => exact ⟨0, by omega, rfl, by rw [List.take_zero]; exact HCM.out, HB4.out⟩
  case round =>
    obtain ⟨k, hk, rfl, HI, H4⟩ := hrel
    obtain ⟨v, hown, hb5, hbw⟩ := HI.out
    clear HI
    by_cases hlt : k < ws.length
    · have hR2' := hR2.below hbw
      obtain ⟨b2, o2, rfl, hbl2, c0, c1, c2⟩ := Sl.at3 hR2' hlt
      have HD := Lib.hid (doS_take (now := now + 1) (l := l) hlt)
      have HO1 := Lib.hid (HDO.out k)
      have hL : (doS (now + 1) l (ws.take k)).length ≤ 800 := by have := HDL.out k; rw [List.length_take] at this; omega
      clear hR2' hbl2
      generalize doS (now + 1) l (ws.take k) = L at *
      generalize ws[k] = x at *
      obtain ⟨kk, n, gn⟩ := x
      simp only at c0 c1 c2
      obtain ⟨A', c', rfl, hLc, hcm, hS⟩ := hown.sl
      have hne := own_ne hown hb5
      have hbX := hbw.alloc hbw.size (.cells #[.string kk, .int .i64 n, .bool gn] 46)
      have hX := Blk.new wr 46 #[.string kk, .int .i64 n, .bool gn]
      have hb5X := hb5.alloc (.cells #[.string kk, .int .i64 n, .bool gn] 46)
      have hownX : OwnV (wr.alloc (.cells #[.string kk, .int .i64 n, .bool gn] 46)) (w.heap.size + 2) (.slice A' L.length c') L := hown.alloc _
      have H4X := Lib.hid (H4.out.alloc (.cells #[.string kk, .int .i64 n, .bool gn] 46))
      have hSX := hS.below ((Below.refl wr.heap.size wr).alloc (Nat.le_refl _) (.cells #[.string kk, .int .i64 n, .bool gn] 46))
      have r5 : (wr.alloc (.cells #[.string kk, .int .i64 n, .bool gn] 46)).cell? ⟨g5, 1, none⟩ = some (.slice A' L.length c') := hb5X.cell 1
      have HbX := Lib.hid hbX
      have HX := Lib.hid hX
      have Hb5X := Lib.hid hb5X
      have HownX := Lib.hid hownX
      have HSX := Lib.hid hSX
      have HNE := Lib.hid hne
      clear hown hb5 hbw hS hne hbX hX hb5X hownX hSX H4 hR hR2
      go_wp2_with fail
      refine (search_any A' L c' g5 wr.heap.size (now + 1) (kk, n, gn) _ (by omega) HO1.out HSX.out Hb5X.out HX.out).mono ?_
      rintro e w4 ⟨e4, rfl, hP, hb4⟩
      have HP := Lib.hid hP
      have heL := hP.1
      have Hb4 := Lib.hid (HbX.out.trans (hb4.mono HbX.out.size))
      have Ho4 := Lib.hid (show OwnV w4 (w.heap.size + 2) (.slice A' L.length c') L from own_kept HownX.out hb4)
      have Hb54 := Lib.hid (Hb5X.out.kept hb4)
      have HX4 := Lib.hid (HX.out.kept hb4)
      have H44 := Lib.hid (H4X.out.kept hb4)
      clear hP hb4 HbX HX Hb5X HownX HSX H4X
      generalize wr.heap.size = g7 at *
      have HLC := Lib.hid (closeL_len kk (now + 1) L)
      have s2 : w4.cell? ⟨g5, 1, none⟩ = some (.slice A' L.length c') := Hb54.out.cell 1
      have s3 : w4.cell? ⟨g7, 0, none⟩ = some (.string kk) := HX4.out.cell 0
      have lt5 := Hb54.out.lt
      have lt7 := HX4.out.lt
      rcases Nat.eq_zero_or_pos e4 with hz | hpos
      · have HC := Lib.hid (close_zero (now := now + 1) HO1.out (hz ▸ HP.out))
        have p0 : decide ((0 : Int) < (e4 : Int)) = false := decide_eq_false (by omega)
        have p0n : decide (0 < e4) = false := decide_eq_false (by omega)
        clear hz
        go_wp2
        refine wp_region_below (by kernel_rfl) (by kernel_rfl) ?_
        iterate 24 (first | go_big_quiet_skip | (refine wpQuiet_step (fun K hK => ?_); go_simp; first | (apply Exists.intro; refine ⟨fun W hW => ?_, hK _ ?_⟩; (first | rfl | (have e1 := (hW.cell (p := ⟨g5, 1, none⟩) lt5).trans s2; have e2 := (hW.cell (p := ⟨g7, 0, none⟩) lt7).trans s3; go_simp; rfl)); clear hK K) | (refine hK _ ?_; clear hK K)))
        refine wpQuiet_nil ?_
        intro W hW
        have Hob := Lib.hid (show OwnV W (w.heap.size + 2) (.slice A' L.length c') (closeL kk (now + 1) L) by rw [HC.out]; exact own_kept Ho4.out hW)
        have Hbb := Lib.hid (Hb54.out.kept hW)
        have HXb := Lib.hid (HX4.out.kept hW)
        have H4b := Lib.hid (H44.out.kept hW)
        have Hbel := Lib.hid (Hb4.out.trans (hW.mono Hb4.out.size))
        have hWs := hW.size
        clear hW
        have t0 : W.cell? ⟨g5, 0, none⟩ = some (.int .i64 (now + 1)) := Hbb.out.cell 0
        have t1 : W.cell? ⟨g5, 1, none⟩ = some (.slice A' L.length c') := Hbb.out.cell 1
        have t2 : W.cell? ⟨g7, 0, none⟩ = some (.string kk) := HXb.out.cell 0
        have t3 : W.cell? ⟨g7, 1, none⟩ = some (.int .i64 n) := HXb.out.cell 1
        cases gn
        · have t4 : W.cell? ⟨g7, 2, none⟩ = some (.bool false) := HXb.out.cell 2
          have HX6 := Lib.hid (show Blk (W.alloc (.cells #[.string kk, .int .i64 n, .int .i64 (now + 1), .int .i64 0] 88)) W.heap.size 88 (verC (kk, n, now + 1, 0)) from (by have h := Blk.new W 88 #[.string kk, .int .i64 n, .int .i64 (now + 1), .int .i64 0]; first | exact h | (rw [World.size_setCell] at h; exact h)))
          have Ho6 := Lib.hid (show OwnV (W.alloc (.cells #[.string kk, .int .i64 n, .int .i64 (now + 1), .int .i64 0] 88)) (w.heap.size + 2) (.slice A' L.length c') (closeL kk (now + 1) L) from World.ownsRow.alloc Hob.out _)
          have HNE6 := Lib.hid (show some W.heap.size ≠ (Value.slice A' L.length c').ownBlock from fun e => absurd (Hob.out.lt _ e.symm).2 (by simp))
          have Hb6 := Lib.hid (Hbb.out.alloc (.cells #[.string kk, .int .i64 n, .int .i64 (now + 1), .int .i64 0] 88))
          have H46 := Lib.hid (H4b.out.alloc (.cells #[.string kk, .int .i64 n, .int .i64 (now + 1), .int .i64 0] 88))
          have Hbe6 := Lib.hid (Hbel.out.alloc Hbel.out.size (.cells #[.string kk, .int .i64 n, .int .i64 (now + 1), .int .i64 0] 88))
          have HINS6 := Lib.hid (ins_any (w.heap.size + 2) W.heap.size e4 (.slice A' L.length c') (closeL kk (now + 1) L) (kk, n, now + 1, 0) (W.alloc (.cells #[.string kk, .int .i64 n, .int .i64 (now + 1), .int .i64 0] 88)) (by rw [HLC.out]; exact heL) (by rw [HLC.out]; omega) (by have := Hbb.out.lt; simp; omega) Ho6.out HX6.out HNE6.out)
          go_wp2_with fail
          refine HINS6.out.mono ?_
          rintro en w6 ⟨v6, rfl, hown6, hg6⟩
          obtain ⟨A6, c6, rfl, _, _, hS6⟩ := hown6.sl
          have hb56 := Hb6.out.grown hg6 HNE.out
          have hb46 := H46.out.grown hg6 (own_ne Ho6.out H46.out)
          have hbel6 := below_own Hbe6.out hg6 (Nat.le_trans Hbel.out.size (by simp)) (fun g hg => by have := (Hob.out.lt g hg).1; omega)
          have z6 := hb56.frozen 1
          have y6 : w6.cell? ⟨g5, 1, none⟩ = some (.slice A' L.length c') := hb56.cell 1
          have HINS := Lib.hid (show insV (closeL kk (now + 1) L) e4 (kk, n, false) (now + 1) = (closeL kk (now + 1) L).take e4 ++ (kk, n, now + 1, 0) :: (closeL kk (now + 1) L).drop e4 by rw [insV, if_neg (by simp)])
          have Hown6 := Lib.hid (ownsRow_setCell_other hown6 (a := ⟨g5, 1, none⟩) (Ne.symm (own_ne hown6 hb56)) (.slice A6 ((closeL kk (now + 1) L).take e4 ++ (kk, n, now + 1, 0) :: (closeL kk (now + 1) L).drop e4).length c6))
          have Hb56 := Lib.hid (hb56.set_ 1 (.slice A6 ((closeL kk (now + 1) L).take e4 ++ (kk, n, now + 1, 0) :: (closeL kk (now + 1) L).drop e4).length c6))
          have Hb46 := Lib.hid (hb46.far (p := ⟨g5, 1, none⟩) (by simp; omega) (.slice A6 ((closeL kk (now + 1) L).take e4 ++ (kk, n, now + 1, 0) :: (closeL kk (now + 1) L).drop e4).length c6))
          have Hbel6 := Lib.hid (hbel6.setCell (p := ⟨g5, 1, none⟩) (by simp; omega) (.slice A6 ((closeL kk (now + 1) L).take e4 ++ (kk, n, now + 1, 0) :: (closeL kk (now + 1) L).drop e4).length c6))
          clear hS6 hown6 hb56 hb46 hbel6 hg6
          generalize ((closeL kk (now + 1) L).take e4 ++ (kk, n, now + 1, 0) :: (closeL kk (now + 1) L).drop e4) = N at *
          go_wp2
          go_roundw
          case rel => exact ⟨k + 1, by omega, by go_num, by rw [HD.out, write_eq HP.out, HINS.out]; exact ⟨_, Hown6.out, Hb56.out, Hbel6.out⟩, Hb46.out⟩
          case measure => simp [intOf]; omega
        · have t4 : W.cell? ⟨g7, 2, none⟩ = some (.bool true) := HXb.out.cell 2
          have HINS := Lib.hid (show insV (closeL kk (now + 1) L) e4 (kk, n, true) (now + 1) = closeL kk (now + 1) L by rw [insV, if_pos (by simp)])
          go_wp2
          go_roundw
          case rel => exact ⟨k + 1, by omega, by go_num, by rw [HD.out, write_eq HP.out, HINS.out]; exact ⟨_, Hob.out, Hbb.out, Hbel.out⟩, H4b.out⟩
          case measure => simp [intOf]; omega
      · obtain ⟨m, hem⟩ : ∃ m, e4 = m + 1 := ⟨e4 - 1, by omega⟩
        have hP' := hem ▸ HP.out
        have hml : m < L.length := by omega
        have hy := List.getElem?_eq_getElem hml
        obtain ⟨gb, hA', lgb, k0, k3⟩ := own_row Ho4.out hml
        subst hA'
        have HYS := Lib.hid (close_yes (now := now + 1) HO1.out hP' hy)
        have HNO := Lib.hid (close_no (now := now + 1) HO1.out hP' hy)
        have HYM := Lib.hid hy
        clear hP' hy
        generalize L[m] = y at *
        have p0 : decide ((0 : Int) < (e4 : Int)) = true := decide_eq_true (by omega)
        have p1 : (e4 : Int) - 1 = (m : Int) := by omega
        have p2 : IntKind.i64.wrap (m : Int) = (m : Int) := by rw [IntKind.wrap_i64]; omega
        have p3 : (m : Int) < L.length := by omega
        have p0n : decide (0 < e4) = true := decide_eq_true (by omega)
        clear hem hpos
        by_cases hk1 : y.1 = kk
        · have p4 : (y.1.toList == kk.toList) = true := beq_iff_eq.2 (by rw [hk1])
          by_cases hk2 : y.2.2.2 = 0
          · have HC := Lib.hid (HYS.out ⟨hk1, hk2⟩)
            have p5 : (y.2.2.2 == 0) = true := beq_iff_eq.2 hk2
            clear hk1 hk2
            go_wp2
            refine wp_region_below (by kernel_rfl) (by kernel_rfl) ?_
            iterate 24 (first | go_big_quiet_skip | (refine wpQuiet_step (fun K hK => ?_); go_simp; first | (apply Exists.intro; refine ⟨fun W hW => ?_, hK _ ?_⟩; (first | rfl | (have e1 := (hW.cell (p := ⟨g5, 1, none⟩) lt5).trans s2; have e2 := (hW.cell (p := ⟨g7, 0, none⟩) lt7).trans s3; have e3 := (hW.cell (p := ⟨gb, m * 4, none⟩) lgb).trans k0; have e4x := (hW.cell (p := ⟨gb, m * 4 + 3, none⟩) lgb).trans k3; go_simp; rfl)); clear hK K) | (refine hK _ ?_; clear hK K)))
            refine wpQuiet_nil ?_
            intro W hW
            have u1 := (hW.cell (p := ⟨g5, 1, none⟩) lt5).trans s2
            have u2 : W.cell? ⟨g5, 0, none⟩ = some (.int .i64 (now + 1)) := (Hb54.out.kept hW).cell 0
            have u3 := (hW.cell (p := ⟨gb, m * 4 + 3, none⟩) lgb).trans k3
            have hoW : OwnV W (w.heap.size + 2) (.slice (some ⟨gb, 0, none⟩) L.length c') L := own_kept Ho4.out hW
            have u4 := World.ownsRow.frozenAt hoW (m * 4 + 3)
            have hst := (World.ownsRow.stored hoW (m * 4 + 3) (.int .i64 (now + 1))).1
            have HNEW := Lib.hid (own_neW Ho4.out HX4.out)
            have HNE4 := Lib.hid (own_ne Ho4.out H44.out)
            have HMB := Lib.hid (Ho4.out.lt gb rfl).1
            have Hob := Lib.hid (show OwnV (W.setCell ⟨gb, m * 4 + 3, none⟩ (.int .i64 (now + 1))) (w.heap.size + 2) (.slice (some ⟨gb, 0, none⟩) L.length c') (closeL kk (now + 1) L) by rw [HC.out]; exact own_set4 hst y HYM.out)
            have Hbb := Lib.hid ((Hb54.out.kept hW).far (p := ⟨gb, m * 4 + 3, none⟩) (fun e => HNE.out (by simp [Value.ownBlock, e])) (.int .i64 (now + 1)))
            have HXb := Lib.hid ((HX4.out.kept hW).far (p := ⟨gb, m * 4 + 3, none⟩) (fun e => HNEW.out (by simp [Value.ownBlock, e])) (.int .i64 (now + 1)))
            have H4b := Lib.hid ((H44.out.kept hW).far (p := ⟨gb, m * 4 + 3, none⟩) (fun e => HNE4.out (by simp [Value.ownBlock, e])) (.int .i64 (now + 1)))
            have Hbel := Lib.hid ((Hb4.out.trans (hW.mono Hb4.out.size)).setCell (p := ⟨gb, m * 4 + 3, none⟩) (by have := HMB.out; simp; omega) (.int .i64 (now + 1)))
            have hWs := hW.size
            clear hW hst hoW
            have t0 : (W.setCell ⟨gb, m * 4 + 3, none⟩ (.int .i64 (now + 1))).cell? ⟨g5, 0, none⟩ = some (.int .i64 (now + 1)) := Hbb.out.cell 0
            have t1 : (W.setCell ⟨gb, m * 4 + 3, none⟩ (.int .i64 (now + 1))).cell? ⟨g5, 1, none⟩ = some (.slice (some ⟨gb, 0, none⟩) L.length c') := Hbb.out.cell 1
            have t2 : (W.setCell ⟨gb, m * 4 + 3, none⟩ (.int .i64 (now + 1))).cell? ⟨g7, 0, none⟩ = some (.string kk) := HXb.out.cell 0
            have t3 : (W.setCell ⟨gb, m * 4 + 3, none⟩ (.int .i64 (now + 1))).cell? ⟨g7, 1, none⟩ = some (.int .i64 n) := HXb.out.cell 1
            cases gn
            · have t4 : (W.setCell ⟨gb, m * 4 + 3, none⟩ (.int .i64 (now + 1))).cell? ⟨g7, 2, none⟩ = some (.bool false) := HXb.out.cell 2
              have HX6 := Lib.hid (show Blk ((W.setCell ⟨gb, m * 4 + 3, none⟩ (.int .i64 (now + 1))).alloc (.cells #[.string kk, .int .i64 n, .int .i64 (now + 1), .int .i64 0] 88)) W.heap.size 88 (verC (kk, n, now + 1, 0)) from (by have h := Blk.new (W.setCell ⟨gb, m * 4 + 3, none⟩ (.int .i64 (now + 1))) 88 #[.string kk, .int .i64 n, .int .i64 (now + 1), .int .i64 0]; first | exact h | (rw [World.size_setCell] at h; exact h)))
              have Ho6 := Lib.hid (show OwnV ((W.setCell ⟨gb, m * 4 + 3, none⟩ (.int .i64 (now + 1))).alloc (.cells #[.string kk, .int .i64 n, .int .i64 (now + 1), .int .i64 0] 88)) (w.heap.size + 2) (.slice (some ⟨gb, 0, none⟩) L.length c') (closeL kk (now + 1) L) from World.ownsRow.alloc Hob.out _)
              have HNE6 := Lib.hid (show some W.heap.size ≠ (Value.slice (some ⟨gb, 0, none⟩) L.length c').ownBlock from fun e => absurd (Hob.out.lt _ e.symm).2 (by simp))
              have Hb6 := Lib.hid (Hbb.out.alloc (.cells #[.string kk, .int .i64 n, .int .i64 (now + 1), .int .i64 0] 88))
              have H46 := Lib.hid (H4b.out.alloc (.cells #[.string kk, .int .i64 n, .int .i64 (now + 1), .int .i64 0] 88))
              have Hbe6 := Lib.hid (Hbel.out.alloc Hbel.out.size (.cells #[.string kk, .int .i64 n, .int .i64 (now + 1), .int .i64 0] 88))
              have HINS6 := Lib.hid (ins_any (w.heap.size + 2) W.heap.size e4 (.slice (some ⟨gb, 0, none⟩) L.length c') (closeL kk (now + 1) L) (kk, n, now + 1, 0) ((W.setCell ⟨gb, m * 4 + 3, none⟩ (.int .i64 (now + 1))).alloc (.cells #[.string kk, .int .i64 n, .int .i64 (now + 1), .int .i64 0] 88)) (by rw [HLC.out]; exact heL) (by rw [HLC.out]; omega) (by have := Hbb.out.lt; simp; omega) Ho6.out HX6.out HNE6.out)
              go_wp2_with fail
              refine HINS6.out.mono ?_
              rintro en w6 ⟨v6, rfl, hown6, hg6⟩
              obtain ⟨A6, c6, rfl, _, _, hS6⟩ := hown6.sl
              have hb56 := Hb6.out.grown hg6 HNE.out
              have hb46 := H46.out.grown hg6 (own_ne Ho6.out H46.out)
              have hbel6 := below_own Hbe6.out hg6 (Nat.le_trans Hbel.out.size (by simp)) (fun g hg => by have := (Hob.out.lt g hg).1; omega)
              have z6 := hb56.frozen 1
              have y6 : w6.cell? ⟨g5, 1, none⟩ = some (.slice (some ⟨gb, 0, none⟩) L.length c') := hb56.cell 1
              have HINS := Lib.hid (show insV (closeL kk (now + 1) L) e4 (kk, n, false) (now + 1) = (closeL kk (now + 1) L).take e4 ++ (kk, n, now + 1, 0) :: (closeL kk (now + 1) L).drop e4 by rw [insV, if_neg (by simp)])
              have Hown6 := Lib.hid (ownsRow_setCell_other hown6 (a := ⟨g5, 1, none⟩) (Ne.symm (own_ne hown6 hb56)) (.slice A6 ((closeL kk (now + 1) L).take e4 ++ (kk, n, now + 1, 0) :: (closeL kk (now + 1) L).drop e4).length c6))
              have Hb56 := Lib.hid (hb56.set_ 1 (.slice A6 ((closeL kk (now + 1) L).take e4 ++ (kk, n, now + 1, 0) :: (closeL kk (now + 1) L).drop e4).length c6))
              have Hb46 := Lib.hid (hb46.far (p := ⟨g5, 1, none⟩) (by simp; omega) (.slice A6 ((closeL kk (now + 1) L).take e4 ++ (kk, n, now + 1, 0) :: (closeL kk (now + 1) L).drop e4).length c6))
              have Hbel6 := Lib.hid (hbel6.setCell (p := ⟨g5, 1, none⟩) (by simp; omega) (.slice A6 ((closeL kk (now + 1) L).take e4 ++ (kk, n, now + 1, 0) :: (closeL kk (now + 1) L).drop e4).length c6))
              clear hS6 hown6 hb56 hb46 hbel6 hg6
              generalize ((closeL kk (now + 1) L).take e4 ++ (kk, n, now + 1, 0) :: (closeL kk (now + 1) L).drop e4) = N at *
              go_wp2
              go_roundw
              case rel => exact ⟨k + 1, by omega, by go_num, by rw [HD.out, write_eq HP.out, HINS.out]; exact ⟨_, Hown6.out, Hb56.out, Hbel6.out⟩, Hb46.out⟩
              case measure => simp [intOf]; omega
            · have t4 : (W.setCell ⟨gb, m * 4 + 3, none⟩ (.int .i64 (now + 1))).cell? ⟨g7, 2, none⟩ = some (.bool true) := HXb.out.cell 2
              have HINS := Lib.hid (show insV (closeL kk (now + 1) L) e4 (kk, n, true) (now + 1) = closeL kk (now + 1) L by rw [insV, if_pos (by simp)])
              go_wp2
              go_roundw
              case rel => exact ⟨k + 1, by omega, by go_num, by rw [HD.out, write_eq HP.out, HINS.out]; exact ⟨_, Hob.out, Hbb.out, Hbel.out⟩, H4b.out⟩
              case measure => simp [intOf]; omega
          · have HC := Lib.hid (HNO.out (fun h => hk2 h.2))
            have p5 : (y.2.2.2 == 0) = false := beq_eq_false_iff_ne.2 hk2
            clear hk1 hk2
            go_wp2
            refine wp_region_below (by kernel_rfl) (by kernel_rfl) ?_
            iterate 24 (first | go_big_quiet_skip | (refine wpQuiet_step (fun K hK => ?_); go_simp; first | (apply Exists.intro; refine ⟨fun W hW => ?_, hK _ ?_⟩; (first | rfl | (have e1 := (hW.cell (p := ⟨g5, 1, none⟩) lt5).trans s2; have e2 := (hW.cell (p := ⟨g7, 0, none⟩) lt7).trans s3; have e3 := (hW.cell (p := ⟨gb, m * 4, none⟩) lgb).trans k0; have e4x := (hW.cell (p := ⟨gb, m * 4 + 3, none⟩) lgb).trans k3; go_simp; rfl)); clear hK K) | (refine hK _ ?_; clear hK K)))
            refine wpQuiet_nil ?_
            intro W hW
            have Hob := Lib.hid (show OwnV W (w.heap.size + 2) (.slice (some ⟨gb, 0, none⟩) L.length c') (closeL kk (now + 1) L) by rw [HC.out]; exact own_kept Ho4.out hW)
            have Hbb := Lib.hid (Hb54.out.kept hW)
            have HXb := Lib.hid (HX4.out.kept hW)
            have H4b := Lib.hid (H44.out.kept hW)
            have Hbel := Lib.hid (Hb4.out.trans (hW.mono Hb4.out.size))
            have hWs := hW.size
            clear hW
            have t0 : W.cell? ⟨g5, 0, none⟩ = some (.int .i64 (now + 1)) := Hbb.out.cell 0
            have t1 : W.cell? ⟨g5, 1, none⟩ = some (.slice (some ⟨gb, 0, none⟩) L.length c') := Hbb.out.cell 1
            have t2 : W.cell? ⟨g7, 0, none⟩ = some (.string kk) := HXb.out.cell 0
            have t3 : W.cell? ⟨g7, 1, none⟩ = some (.int .i64 n) := HXb.out.cell 1
            cases gn
            · have t4 : W.cell? ⟨g7, 2, none⟩ = some (.bool false) := HXb.out.cell 2
              have HX6 := Lib.hid (show Blk (W.alloc (.cells #[.string kk, .int .i64 n, .int .i64 (now + 1), .int .i64 0] 88)) W.heap.size 88 (verC (kk, n, now + 1, 0)) from (by have h := Blk.new W 88 #[.string kk, .int .i64 n, .int .i64 (now + 1), .int .i64 0]; first | exact h | (rw [World.size_setCell] at h; exact h)))
              have Ho6 := Lib.hid (show OwnV (W.alloc (.cells #[.string kk, .int .i64 n, .int .i64 (now + 1), .int .i64 0] 88)) (w.heap.size + 2) (.slice (some ⟨gb, 0, none⟩) L.length c') (closeL kk (now + 1) L) from World.ownsRow.alloc Hob.out _)
              have HNE6 := Lib.hid (show some W.heap.size ≠ (Value.slice (some ⟨gb, 0, none⟩) L.length c').ownBlock from fun e => absurd (Hob.out.lt _ e.symm).2 (by simp))
              have Hb6 := Lib.hid (Hbb.out.alloc (.cells #[.string kk, .int .i64 n, .int .i64 (now + 1), .int .i64 0] 88))
              have H46 := Lib.hid (H4b.out.alloc (.cells #[.string kk, .int .i64 n, .int .i64 (now + 1), .int .i64 0] 88))
              have Hbe6 := Lib.hid (Hbel.out.alloc Hbel.out.size (.cells #[.string kk, .int .i64 n, .int .i64 (now + 1), .int .i64 0] 88))
              have HINS6 := Lib.hid (ins_any (w.heap.size + 2) W.heap.size e4 (.slice (some ⟨gb, 0, none⟩) L.length c') (closeL kk (now + 1) L) (kk, n, now + 1, 0) (W.alloc (.cells #[.string kk, .int .i64 n, .int .i64 (now + 1), .int .i64 0] 88)) (by rw [HLC.out]; exact heL) (by rw [HLC.out]; omega) (by have := Hbb.out.lt; simp; omega) Ho6.out HX6.out HNE6.out)
              go_wp2_with fail
              refine HINS6.out.mono ?_
              rintro en w6 ⟨v6, rfl, hown6, hg6⟩
              obtain ⟨A6, c6, rfl, _, _, hS6⟩ := hown6.sl
              have hb56 := Hb6.out.grown hg6 HNE.out
              have hb46 := H46.out.grown hg6 (own_ne Ho6.out H46.out)
              have hbel6 := below_own Hbe6.out hg6 (Nat.le_trans Hbel.out.size (by simp)) (fun g hg => by have := (Hob.out.lt g hg).1; omega)
              have z6 := hb56.frozen 1
              have y6 : w6.cell? ⟨g5, 1, none⟩ = some (.slice (some ⟨gb, 0, none⟩) L.length c') := hb56.cell 1
              have HINS := Lib.hid (show insV (closeL kk (now + 1) L) e4 (kk, n, false) (now + 1) = (closeL kk (now + 1) L).take e4 ++ (kk, n, now + 1, 0) :: (closeL kk (now + 1) L).drop e4 by rw [insV, if_neg (by simp)])
              have Hown6 := Lib.hid (ownsRow_setCell_other hown6 (a := ⟨g5, 1, none⟩) (Ne.symm (own_ne hown6 hb56)) (.slice A6 ((closeL kk (now + 1) L).take e4 ++ (kk, n, now + 1, 0) :: (closeL kk (now + 1) L).drop e4).length c6))
              have Hb56 := Lib.hid (hb56.set_ 1 (.slice A6 ((closeL kk (now + 1) L).take e4 ++ (kk, n, now + 1, 0) :: (closeL kk (now + 1) L).drop e4).length c6))
              have Hb46 := Lib.hid (hb46.far (p := ⟨g5, 1, none⟩) (by simp; omega) (.slice A6 ((closeL kk (now + 1) L).take e4 ++ (kk, n, now + 1, 0) :: (closeL kk (now + 1) L).drop e4).length c6))
              have Hbel6 := Lib.hid (hbel6.setCell (p := ⟨g5, 1, none⟩) (by simp; omega) (.slice A6 ((closeL kk (now + 1) L).take e4 ++ (kk, n, now + 1, 0) :: (closeL kk (now + 1) L).drop e4).length c6))
              clear hS6 hown6 hb56 hb46 hbel6 hg6
              generalize ((closeL kk (now + 1) L).take e4 ++ (kk, n, now + 1, 0) :: (closeL kk (now + 1) L).drop e4) = N at *
              go_wp2
              go_roundw
              case rel => exact ⟨k + 1, by omega, by go_num, by rw [HD.out, write_eq HP.out, HINS.out]; exact ⟨_, Hown6.out, Hb56.out, Hbel6.out⟩, Hb46.out⟩
              case measure => simp [intOf]; omega
            · have t4 : W.cell? ⟨g7, 2, none⟩ = some (.bool true) := HXb.out.cell 2
              have HINS := Lib.hid (show insV (closeL kk (now + 1) L) e4 (kk, n, true) (now + 1) = closeL kk (now + 1) L by rw [insV, if_pos (by simp)])
              go_wp2
              go_roundw
              case rel => exact ⟨k + 1, by omega, by go_num, by rw [HD.out, write_eq HP.out, HINS.out]; exact ⟨_, Hob.out, Hbb.out, Hbel.out⟩, H4b.out⟩
              case measure => simp [intOf]; omega
        · have p4 : (y.1.toList == kk.toList) = false := beq_eq_false_iff_ne.2 (fun h => hk1 ((bytes_eq_iff _ _).1 h))
          have HC := Lib.hid (HNO.out (fun h => hk1 h.1))
          clear hk1
          go_wp2
          refine wp_region_below (by kernel_rfl) (by kernel_rfl) ?_
          iterate 24 (first | go_big_quiet_skip | (refine wpQuiet_step (fun K hK => ?_); go_simp; first | (apply Exists.intro; refine ⟨fun W hW => ?_, hK _ ?_⟩; (first | rfl | (have e1 := (hW.cell (p := ⟨g5, 1, none⟩) lt5).trans s2; have e2 := (hW.cell (p := ⟨g7, 0, none⟩) lt7).trans s3; have e3 := (hW.cell (p := ⟨gb, m * 4, none⟩) lgb).trans k0; have e4x := (hW.cell (p := ⟨gb, m * 4 + 3, none⟩) lgb).trans k3; go_simp; rfl)); clear hK K) | (refine hK _ ?_; clear hK K)))
          refine wpQuiet_nil ?_
          intro W hW
          have Hob := Lib.hid (show OwnV W (w.heap.size + 2) (.slice (some ⟨gb, 0, none⟩) L.length c') (closeL kk (now + 1) L) by rw [HC.out]; exact own_kept Ho4.out hW)
          have Hbb := Lib.hid (Hb54.out.kept hW)
          have HXb := Lib.hid (HX4.out.kept hW)
          have H4b := Lib.hid (H44.out.kept hW)
          have Hbel := Lib.hid (Hb4.out.trans (hW.mono Hb4.out.size))
          have hWs := hW.size
          clear hW
          have t0 : W.cell? ⟨g5, 0, none⟩ = some (.int .i64 (now + 1)) := Hbb.out.cell 0
          have t1 : W.cell? ⟨g5, 1, none⟩ = some (.slice (some ⟨gb, 0, none⟩) L.length c') := Hbb.out.cell 1
          have t2 : W.cell? ⟨g7, 0, none⟩ = some (.string kk) := HXb.out.cell 0
          have t3 : W.cell? ⟨g7, 1, none⟩ = some (.int .i64 n) := HXb.out.cell 1
          cases gn
          · have t4 : W.cell? ⟨g7, 2, none⟩ = some (.bool false) := HXb.out.cell 2
            have HX6 := Lib.hid (show Blk (W.alloc (.cells #[.string kk, .int .i64 n, .int .i64 (now + 1), .int .i64 0] 88)) W.heap.size 88 (verC (kk, n, now + 1, 0)) from (by have h := Blk.new W 88 #[.string kk, .int .i64 n, .int .i64 (now + 1), .int .i64 0]; first | exact h | (rw [World.size_setCell] at h; exact h)))
            have Ho6 := Lib.hid (show OwnV (W.alloc (.cells #[.string kk, .int .i64 n, .int .i64 (now + 1), .int .i64 0] 88)) (w.heap.size + 2) (.slice (some ⟨gb, 0, none⟩) L.length c') (closeL kk (now + 1) L) from World.ownsRow.alloc Hob.out _)
            have HNE6 := Lib.hid (show some W.heap.size ≠ (Value.slice (some ⟨gb, 0, none⟩) L.length c').ownBlock from fun e => absurd (Hob.out.lt _ e.symm).2 (by simp))
            have Hb6 := Lib.hid (Hbb.out.alloc (.cells #[.string kk, .int .i64 n, .int .i64 (now + 1), .int .i64 0] 88))
            have H46 := Lib.hid (H4b.out.alloc (.cells #[.string kk, .int .i64 n, .int .i64 (now + 1), .int .i64 0] 88))
            have Hbe6 := Lib.hid (Hbel.out.alloc Hbel.out.size (.cells #[.string kk, .int .i64 n, .int .i64 (now + 1), .int .i64 0] 88))
            have HINS6 := Lib.hid (ins_any (w.heap.size + 2) W.heap.size e4 (.slice (some ⟨gb, 0, none⟩) L.length c') (closeL kk (now + 1) L) (kk, n, now + 1, 0) (W.alloc (.cells #[.string kk, .int .i64 n, .int .i64 (now + 1), .int .i64 0] 88)) (by rw [HLC.out]; exact heL) (by rw [HLC.out]; omega) (by have := Hbb.out.lt; simp; omega) Ho6.out HX6.out HNE6.out)
            go_wp2_with fail
            refine HINS6.out.mono ?_
            rintro en w6 ⟨v6, rfl, hown6, hg6⟩
            obtain ⟨A6, c6, rfl, _, _, hS6⟩ := hown6.sl
            have hb56 := Hb6.out.grown hg6 HNE.out
            have hb46 := H46.out.grown hg6 (own_ne Ho6.out H46.out)
            have hbel6 := below_own Hbe6.out hg6 (Nat.le_trans Hbel.out.size (by simp)) (fun g hg => by have := (Hob.out.lt g hg).1; omega)
            have z6 := hb56.frozen 1
            have y6 : w6.cell? ⟨g5, 1, none⟩ = some (.slice (some ⟨gb, 0, none⟩) L.length c') := hb56.cell 1
            have HINS := Lib.hid (show insV (closeL kk (now + 1) L) e4 (kk, n, false) (now + 1) = (closeL kk (now + 1) L).take e4 ++ (kk, n, now + 1, 0) :: (closeL kk (now + 1) L).drop e4 by rw [insV, if_neg (by simp)])
            have Hown6 := Lib.hid (ownsRow_setCell_other hown6 (a := ⟨g5, 1, none⟩) (Ne.symm (own_ne hown6 hb56)) (.slice A6 ((closeL kk (now + 1) L).take e4 ++ (kk, n, now + 1, 0) :: (closeL kk (now + 1) L).drop e4).length c6))
            have Hb56 := Lib.hid (hb56.set_ 1 (.slice A6 ((closeL kk (now + 1) L).take e4 ++ (kk, n, now + 1, 0) :: (closeL kk (now + 1) L).drop e4).length c6))
            have Hb46 := Lib.hid (hb46.far (p := ⟨g5, 1, none⟩) (by simp; omega) (.slice A6 ((closeL kk (now + 1) L).take e4 ++ (kk, n, now + 1, 0) :: (closeL kk (now + 1) L).drop e4).length c6))
            have Hbel6 := Lib.hid (hbel6.setCell (p := ⟨g5, 1, none⟩) (by simp; omega) (.slice A6 ((closeL kk (now + 1) L).take e4 ++ (kk, n, now + 1, 0) :: (closeL kk (now + 1) L).drop e4).length c6))
            clear hS6 hown6 hb56 hb46 hbel6 hg6
            generalize ((closeL kk (now + 1) L).take e4 ++ (kk, n, now + 1, 0) :: (closeL kk (now + 1) L).drop e4) = N at *
            go_wp2
            go_roundw
            case rel => exact ⟨k + 1, by omega, by go_num, by rw [HD.out, write_eq HP.out, HINS.out]; exact ⟨_, Hown6.out, Hb56.out, Hbel6.out⟩, Hb46.out⟩
            case measure => simp [intOf]; omega
          · have t4 : W.cell? ⟨g7, 2, none⟩ = some (.bool true) := HXb.out.cell 2
            have HINS := Lib.hid (show insV (closeL kk (now + 1) L) e4 (kk, n, true) (now + 1) = closeL kk (now + 1) L by rw [insV, if_pos (by simp)])
            go_wp2
            go_roundw
            case rel => exact ⟨k + 1, by omega, by go_num, by rw [HD.out, write_eq HP.out, HINS.out]; exact ⟨_, Hob.out, Hbb.out, Hbel.out⟩, H4b.out⟩
            case measure => simp [intOf]; omega
    · obtain rfl : k = ws.length := by omega
      rw [List.take_length] at *
      obtain ⟨A', c', rfl, _, _, hS⟩ := hown.sl
      clear hS
      have y0 : wr.cell? ⟨g5, 0, none⟩ = some (.int .i64 (now + 1)) := hb5.cell 0
      have y1 : wr.cell? ⟨g5, 1, none⟩ = some (.slice A' _ c') := hb5.cell 1
      have x0 : wr.cell? ⟨w.heap.size + 1, 0, none⟩ = some (.int .i64 0) := H4.out.cell 0
      have x1 : wr.cell? ⟨w.heap.size + 1, 1, none⟩ = some (.slice none 0 0) := H4.out.cell 1
      have z0 := H4.out.frozen 0
      have z1 := H4.out.frozen 1
      have HOW2 := Lib.hid (own_set (own_set hown (p := ⟨w.heap.size + 1, 0, none⟩) (by simp) (.int .i64 (now + 1))) (p := ⟨w.heap.size + 1, 1, none⟩) (by simp) (.slice A' (doS (now + 1) l ws).length c'))
      obtain ⟨q0, q1⟩ := H4.out.two (.int .i64 (now + 1)) (.slice A' (doS (now + 1) l ws).length c')
      have hbE := (hbw.setCell (p := ⟨w.heap.size + 1, 0, none⟩) (by simp) (.int .i64 (now + 1))).setCell (p := ⟨w.heap.size + 1, 1, none⟩) (by simp) (.slice A' (doS (now + 1) l ws).length c')
      clear hR hR2 hown hb5
      go_wp2
      refine bodyPost_ret (v := .agg #[.int .i64 (now + 1), .slice A' (doS (now + 1) l ws).length c']) (by simp [results, Try.results57, go_sem, q0, q1]) rfl ⟨_, rfl, OwnV.le HOW2.out (by omega), hbE⟩
end Go.Proofs.Ytpjkcmmmpgncmaa
