import Derived.Deep.RegionLaw
import Derived.Test.YtfmhhckkpenldaaGreatDoorM10
import Derived.Test.YtfmhhckkpenldaaGreatDoorVerS
import Derived.Test.YtfmhhckkpenldaaGreatDoorM23
/- The reference's VersTrim. -/
namespace Go.Proofs.YtfmhhckkpenldaaGreatDoor
open Go.RowKit
theorem ownV_app {w : World} {B : Nat} {v : Value} {l m : List Ver} (h : w.ownsRow B 81 4 v (l.length + m.length) (l.flatMap encVer ++ m.flatMap encVer)) : OwnV w B v (l ++ m) := by
  unfold OwnV; rw [List.length_append, List.flatMap_append]; exact h
/-- what stands while versions are kept -/
def TR (w : World) (g5 : Nat) (now : Int) (A : Option Addr) (l : List Ver) (c : Nat) (A5 : Option Addr) (m : List Ver) (c5 : Nat) (W : World) : Prop :=
  Blk W w.heap.size 36 #[.int .i64 now, .slice A l.length c] ∧ Blk W (w.heap.size + 1) 36 #[.int .i64 0, .slice none 0 0] ∧ Blk W g5 36 #[.int .i64 now, .slice A5 m.length c5] ∧ OwnV W (w.heap.size + 2) (.slice A5 m.length c5) m ∧ Below w.heap.size w W ∧ ∀ x ∈ m, x ∈ l
set_option maxRecDepth 100000 in
set_option maxHeartbeats 2000000 in
theorem specTrim_any (A : Option Addr) (l : List Ver) (c : Nat) (now t : Int) (w : World) (hf : FitsV l) (hn : l.length ≤ 1048576) (hR : Sl encVer 4 w A l) :
    Calls Tryz.prog 42 #[.agg #[.int .i64 now, .slice A l.length c], .int .i64 t] w fun e w' => ∃ (now' : Int) (m : List Ver) (v : Value), e = .returned (.agg #[.int .i64 now', v]) ∧ OwnV w' w.heap.size v m ∧ FitsV m ∧ m.length ≤ 60 ∧ 0 ≤ now' ∧ now' ≤ 40 ∧ Below w.heap.size w w' := by
  obtain ⟨i0, hi, hz0, hz1, hz2⟩ := info_parts infoVer
  have HI := Lib.hid (⟨hi, hz0, hz1, hz2⟩ : _ ∧ _ ∧ _ ∧ _)
  clear hi hz0 hz1 hz2
  have hb0 := ((Below.refl w.heap.size w).alloc (Nat.le_refl _) (.cells #[.int .i64 now, .slice A l.length c] 36)).alloc (by simp) (.cells #[.int .i64 0, .slice none 0 0] 36)
  have hB1 := (Blk.new w 36 #[.int .i64 now, .slice A l.length c]).alloc (.cells #[.int .i64 0, .slice none 0 0] 36)
  have hB2 := Blk.new (w.alloc (.cells #[.int .i64 now, .slice A l.length c] 36)) 36 #[.int .i64 0, .slice none 0 0]
  have HSZ := Lib.hid (show ((w.alloc (.cells #[.int .i64 now, .slice A l.length c] 36)).alloc (.cells #[.int .i64 0, .slice none 0 0] 36)).heap.size = w.heap.size + 2 by simp)
  rw [World.size_alloc] at hB2
  have HF := Lib.hid hf
  go_enter Tryz.func42, Tryz.ntmps42
  go_wp2_with fail
  generalize (w.alloc (.cells #[.int .i64 now, .slice A l.length c] 36)).alloc (.cells #[.int .i64 0, .slice none 0 0] 36) = w0 at *
  refine (specVersOk_any A l c now w0 hf hn (hR.below hb0)).mono ?_
  rintro e w1 ⟨rfl, hb1⟩
  have hbw1 := bthen hb0 hb1
  have hB11 := hB1.kept hb1
  have hB21 := hB2.kept hb1
  have hs1 := hb1.size
  have HRA := Lib.hid hR
  clear hB1 hB2 hb0 hb1 hR hf
  cases hv : versB now l
  · have z0 := hB21.frozen 0
    have z1 := hB21.frozen 1
    have x0 : w1.cell? ⟨w.heap.size + 1, 0, none⟩ = some (.int .i64 0) := hB21.cell 0
    have x1 : w1.cell? ⟨w.heap.size + 1, 1, none⟩ = some (.slice none 0 0) := hB21.cell 1
    obtain ⟨q0, q1⟩ := hB21.two (.int .i64 0) (.slice none 0 0)
    clear hv
    go_wp2
    refine bodyPost_ret (v := .agg #[.int .i64 0, .slice none 0 0]) (by simp [results, Tryz.results42, go_sem, q0, q1]) rfl ⟨0, [], _, rfl, ⟨rfl, .inl ⟨rfl, rfl⟩⟩, ⟨Nat.zero_le _, fun x h => absurd h (by simp)⟩, by simp, by omega, by omega, (hbw1.setCell (by simp) _).setCell (by simp) _⟩
  · obtain ⟨⟨hn0, hn1, hl60⟩, _⟩ := versB_out hv
    clear hv
    have r0 : w1.cell? ⟨w.heap.size, 0, none⟩ = some (.int .i64 now) := hB11.cell 0
    have HG0 := Lib.hid (show w.heap.size + 2 ≤ w1.heap.size by have := HSZ.out; omega)
    have hba := ((Below.refl w1.heap.size w1).alloc (Nat.le_refl _) (.cells #[] 81)).alloc (by simp) (.cells #[.int .i64 now, .slice (some ⟨w1.heap.size, 0, none⟩) 0 0] 36)
    have hB5 := Blk.new (w1.alloc (.cells #[] 81)) 36 #[.int .i64 now, .slice (some ⟨w1.heap.size, 0, none⟩) 0 0]
    rw [World.size_alloc] at hB5
    have ho := own_of_blk (base := w1.heap.size) (n := 0) (k := 4) (xs := []) ((Blk.new w1 81 #[]).alloc (.cells #[.int .i64 now, .slice (some ⟨w1.heap.size, 0, none⟩) 0 0] 36)) (Nat.le_refl _) (Nat.zero_le _) rfl rfl
    have HST := Lib.hid (show TR w (w1.heap.size + 1) now A l c (some ⟨w1.heap.size, 0, none⟩) [] 0 ((w1.alloc (.cells #[] 81)).alloc (.cells #[.int .i64 now, .slice (some ⟨w1.heap.size, 0, none⟩) 0 0] 36)) from ⟨hB11.kept hba, hB21.kept hba, hB5, OwnV.le ho HG0.out, bthen hbw1 hba, fun x h => absurd h (by simp)⟩)
    have HG5 := Lib.hid (show w.heap.size + 2 ≤ w1.heap.size + 1 by have := HG0.out; omega)
    clear hba hB5 ho hB11 hB21 hbw1 HG0 HSZ
    go_wp2
    clear r0
    generalize (w1.alloc (.cells #[] 81)).alloc (.cells #[.int .i64 now, .slice (some ⟨w1.heap.size, 0, none⟩) 0 0] 36) = w2 at *
    generalize w1.heap.size + 1 = g5 at *
    go_loopw [6] (fun i wr => ∃ (k : Nat) (A5 : Option Addr) (m : List Ver) (c5 : Nat), k ≤ l.length ∧ i = .int .i64 k ∧ m.length ≤ k ∧ Hid (TR w g5 now A l c A5 m c5 wr)) (fun i _ => l.length - (intOf i).toNat)
    case atStart => exact ⟨0, _, [], 0, by omega, rfl, by simp, HST.out⟩
    case round =>
      clear HST
      obtain ⟨k, A5, m, c5, hk, rfl, hmk, HT⟩ := hrel
      have b0 : wr.cell? ⟨w.heap.size, 0, none⟩ = some (.int .i64 now) := HT.out.1.cell 0
      have b1 : wr.cell? ⟨w.heap.size, 1, none⟩ = some (.slice A l.length c) := HT.out.1.cell 1
      by_cases hlt : k < l.length
      · obtain ⟨b, o, rfl, hbl, c0, c1, c2, c3⟩ := Sl.at4 (HRA.out.below HT.out.2.2.2.2.1) hlt
        have HX := Lib.hid (List.getElem_mem hlt)
        generalize l[k] = x at *
        obtain ⟨xk, xn, xf, xt⟩ := x
        simp only at c0 c1 c2 c3
        have hki : (k : Int) < (l.length : Int) := by omega
        have d0 : wr.cell? ⟨g5, 0, none⟩ = some (.int .i64 now) := HT.out.2.2.1.cell 0
        have d1 : wr.cell? ⟨g5, 1, none⟩ = some (.slice A5 m.length c5) := HT.out.2.2.1.cell 1
        have hg5l := HT.out.2.2.1.lt
        have hbw := HT.out.1.lt
        have HBD := Lib.hid (show Below wr.heap.size wr (wr.alloc (.cells #[.string xk, .int .i64 xn, .int .i64 xf, .int .i64 xt] 81)).drew from ((Below.refl wr.heap.size wr).alloc (Nat.le_refl _) _).drew)
        have HT2 := Lib.hid (show TR w g5 now (some ⟨b, o, none⟩) l c A5 m c5 (wr.alloc (.cells #[.string xk, .int .i64 xn, .int .i64 xf, .int .i64 xt] 81)).drew from by
          obtain ⟨h1, h2, h3, h4, h5, h6⟩ := HT.out
          exact ⟨h1.kept HBD.out, h2.kept HBD.out, h3.kept HBD.out, own_kept h4 HBD.out, bthen h5 HBD.out, h6⟩)
        have HXS := Lib.hid (show Sl encVer 4 (wr.alloc (.cells #[.string xk, .int .i64 xn, .int .i64 xf, .int .i64 xt] 81)).drew (some ⟨wr.heap.size, 0, none⟩) [(xk, xn, xf, xt)] from sl_one (x := (xk, xn, xf, xt)) (Blk.new wr 81 #[.string xk, .int .i64 xn, .int .i64 xf, .int .i64 xt]).drew)
        have H63 := Lib.hid (show m.length + [((xk, xn, xf, xt) : Ver)].length ≤ maxLen by unfold maxLen; simp; omega)
        have HBY := Lib.hid (show (m.length + [((xk, xn, xf, xt) : Ver)].length) * 40 ≤ 140737488355328 by simp; omega)
        have HBS := Lib.hid (show w.heap.size + 2 ≤ (wr.alloc (.cells #[.string xk, .int .i64 xn, .int .i64 xf, .int .i64 xt] 81)).drew.heap.size by have := HG5.out; show _ ≤ (wr.alloc _).heap.size; simp; omega)
        by_cases hz : xt = 0
        · subst hz
          go_wp2_with fail
          go_region_law (refine step_append_sl (enc := encVer) rfl (.tmp 40) (.tmp 46) 34 rfl (w.heap.size + 2) 81 i0 (.agg #[.string ⟨#[]⟩, .int .i64 0, .int .i64 0, .int .i64 0]) 4 40 Tryz.underlying34 HI.out.1 HI.out.2.1 HI.out.2.2.1 HI.out.2.2.2 rfl (by decide) (.slice A5 m.length c5) m.length (m.flatMap encVer) (by simp [Act.eval]) HT2.out.2.2.2.1 encVer_len (some ⟨wr.heap.size, 0, none⟩) [((xk, xn, xf, 0) : Ver)] 1 (by simp [Act.eval]) HXS.out (encVer_one _) H63.out HBY.out HBS.out ?_; intro v' w' hown hgrow; obtain ⟨m2, hm2, ho⟩ : ∃ m2, m2 = m ++ [((xk, xn, xf, 0) : Ver)] ∧ OwnV w' (w.heap.size + 2) v' m2 := ⟨_, rfl, ownV_app hown⟩; have HM2 := Lib.hid hm2; obtain ⟨A', c', rfl, _, _, hS'⟩ := ho.sl; have HOW := Lib.hid ho; have HG := Lib.hid hgrow; have HB5 := Lib.hid (HT2.out.2.2.1.grown hgrow (own_ne HT2.out.2.2.2.1 HT2.out.2.2.1)); have z1 := HB5.out.frozen 1; have x1 : w'.cell? ⟨g5, 1, none⟩ = some (.slice A5 m.length c5) := HB5.out.cell 1; clear hown hgrow hS' ho hm2)
          all_goals
            have HTN := Lib.hid (show TR w g5 now (some ⟨b, o, none⟩) l c A' m2 c' (w'.setCell ⟨g5, 1, none⟩ (.slice A' m2.length c')) from by
              obtain ⟨h1, h2, h3, h4, h5, h6⟩ := HT2.out
              have hg := HG5.out
              refine ⟨(h1.grown HG.out (own_ne h4 h1)).far (by simp; omega) _, (h2.grown HG.out (own_ne h4 h2)).far (by simp; omega) _, HB5.out.set_ 1 _, ownsRow_setCell_other HOW.out (Ne.symm (own_ne HOW.out HB5.out)) _, (below_own h5 HG.out h5.size (fun j hj => by have := (h4.lt j hj).1; omega)).setCell (by simp; omega) _, fun y hy => ?_⟩
              rw [HM2.out] at hy
              rcases List.mem_append.1 hy with h | h
              · exact h6 y h
              · simp at h; subst h; exact HX.out)
            have hm2l : m2.length ≤ k + 1 := by rw [HM2.out]; simp; omega
            clear z1 x1
            go_wp2
            go_roundw
            case rel => exact ⟨k + 1, A', m2, c', by omega, by go_num, hm2l, HTN.out⟩
            case measure => simp [intOf]; omega
        · have hz0 : (xt == 0) = false := beq_eq_false_iff_ne.2 hz
          have hz1 : decide (xt = 0) = false := decide_eq_false hz
          clear hz
          by_cases ht : t < xt
          · have ht0 : decide (t < xt) = true := decide_eq_true ht
            go_wp2_with fail
            go_region_law (refine step_append_sl (enc := encVer) rfl (.tmp 40) (.tmp 46) 34 rfl (w.heap.size + 2) 81 i0 (.agg #[.string ⟨#[]⟩, .int .i64 0, .int .i64 0, .int .i64 0]) 4 40 Tryz.underlying34 HI.out.1 HI.out.2.1 HI.out.2.2.1 HI.out.2.2.2 rfl (by decide) (.slice A5 m.length c5) m.length (m.flatMap encVer) (by simp [Act.eval]) HT2.out.2.2.2.1 encVer_len (some ⟨wr.heap.size, 0, none⟩) [((xk, xn, xf, xt) : Ver)] 1 (by simp [Act.eval]) HXS.out (encVer_one _) H63.out HBY.out HBS.out ?_; intro v' w' hown hgrow; obtain ⟨m2, hm2, ho⟩ : ∃ m2, m2 = m ++ [((xk, xn, xf, xt) : Ver)] ∧ OwnV w' (w.heap.size + 2) v' m2 := ⟨_, rfl, ownV_app hown⟩; have HM2 := Lib.hid hm2; obtain ⟨A', c', rfl, _, _, hS'⟩ := ho.sl; have HOW := Lib.hid ho; have HG := Lib.hid hgrow; have HB5 := Lib.hid (HT2.out.2.2.1.grown hgrow (own_ne HT2.out.2.2.2.1 HT2.out.2.2.1)); have z1 := HB5.out.frozen 1; have x1 : w'.cell? ⟨g5, 1, none⟩ = some (.slice A5 m.length c5) := HB5.out.cell 1; clear hown hgrow hS' ho hm2)
            all_goals
              have HTN := Lib.hid (show TR w g5 now (some ⟨b, o, none⟩) l c A' m2 c' (w'.setCell ⟨g5, 1, none⟩ (.slice A' m2.length c')) from by
                obtain ⟨h1, h2, h3, h4, h5, h6⟩ := HT2.out
                have hg := HG5.out
                refine ⟨(h1.grown HG.out (own_ne h4 h1)).far (by simp; omega) _, (h2.grown HG.out (own_ne h4 h2)).far (by simp; omega) _, HB5.out.set_ 1 _, ownsRow_setCell_other HOW.out (Ne.symm (own_ne HOW.out HB5.out)) _, (below_own h5 HG.out h5.size (fun j hj => by have := (h4.lt j hj).1; omega)).setCell (by simp; omega) _, fun y hy => ?_⟩
                rw [HM2.out] at hy
                rcases List.mem_append.1 hy with h | h
                · exact h6 y h
                · simp at h; subst h; exact HX.out)
              have hm2l : m2.length ≤ k + 1 := by rw [HM2.out]; simp; omega
              clear z1 x1
              go_wp2
              go_roundw
              case rel => exact ⟨k + 1, A', m2, c', by omega, by go_num, hm2l, HTN.out⟩
              case measure => simp [intOf]; omega
          · have ht0 : decide (t < xt) = false := decide_eq_false ht
            clear ht
            go_wp2
            go_roundw
            case rel => exact ⟨k + 1, A5, m, c5, by omega, by go_num, by omega, HT.out⟩
            case measure => simp [intOf]; omega
      · obtain rfl : k = l.length := by omega
        have hB3 := HT.out.2.1
        have z0 := hB3.frozen 0
        have z1 := hB3.frozen 1
        have x0 : wr.cell? ⟨w.heap.size + 1, 0, none⟩ = some (.int .i64 0) := hB3.cell 0
        have x1 : wr.cell? ⟨w.heap.size + 1, 1, none⟩ = some (.slice none 0 0) := hB3.cell 1
        have d0 : wr.cell? ⟨g5, 0, none⟩ = some (.int .i64 now) := HT.out.2.2.1.cell 0
        have d1 : wr.cell? ⟨g5, 1, none⟩ = some (.slice A5 m.length c5) := HT.out.2.2.1.cell 1
        have HOW := Lib.hid (own_setV HT.out.2.2.2.1 hB3 (.int .i64 now) (.slice A5 m.length c5))
        have HMF := Lib.hid (show FitsV m from ⟨by unfold maxLen; omega, fun x h => HF.out.2 x (HT.out.2.2.2.2.2 x h)⟩)
        have hbe := HT.out.2.2.2.2.1
        obtain ⟨q0, q1⟩ := hB3.two (.int .i64 now) (.slice A5 m.length c5)
        clear hB3
        go_wp2
        refine bodyPost_ret (v := .agg #[.int .i64 now, .slice A5 m.length c5]) (by simp [results, Tryz.results42, go_sem, q0, q1]) rfl ⟨now, m, _, rfl, OwnV.le HOW.out (by omega), HMF.out, by omega, hn0, hn1, (hbe.setCell (by simp) _).setCell (by simp) _⟩
end Go.Proofs.YtfmhhckkpenldaaGreatDoor
