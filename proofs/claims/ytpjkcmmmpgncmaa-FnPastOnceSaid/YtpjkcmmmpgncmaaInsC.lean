/- slices.Insert of one version where there is no room, and all ways in one. -/
import Derived.Test.YtpjkcmmmpgncmaaInsB
namespace Go.Proofs.Ytpjkcmmmpgncmaa
open Go.RowKit
theorem zeroCells_size (z : Array Value) (n : Nat) : (Builtin.zeroCells z n).size = n * z.size := by simp [Builtin.zeroCells]
set_option maxRecDepth 100000 in
set_option maxHeartbeats 1000000 in
theorem ins_grow (B g g2 e : Nat) (cur : Array Value) (l : List Ver) (x : Ver) (w : World) (he : e < l.length) (hn : l.length ≤ 1000) (hB : B ≤ w.heap.size)
    (hG : Blk w g 88 cur) (ht : cur.toList.take (l.length * 4) = l.flatMap encVer) (hX : Blk w g2 88 (verC x)) :
    Calls Try.prog 103 #[.slice (some ⟨g, 0, none⟩) l.length l.length, .int .i64 e, .slice (some ⟨g2, 0, none⟩) 1 1] w fun en w' => ∃ v, en = .returned v ∧ w'.ownsRow B 88 4 v (l.length + 1) ((l.take e ++ x :: l.drop e).flatMap encVer) ∧ w.grownBy w' (some g) := by
  obtain ⟨i0, hi, hz0, hz1, hz2⟩ := info_parts infoVer
  have q1 : decide ((l.length : Int) < (l.length : Int) + 1) = true := decide_eq_true (by omega)
  have q2 : ((e : Int) == (l.length : Int)) = false := beq_eq_false_iff_ne.2 (by omega)
  have hp := row_parts (e := e) rfl ht
  have hF1 : ((l.take e).flatMap encVer).length = e * 4 := by rw [flat_len encVer_len, List.length_take, Nat.min_eq_left (by omega)]
  have hF2 : ((l.drop e).flatMap encVer).length = (l.length - e) * 4 := by rw [flat_len encVer_len, List.length_drop]
  have h12 := encVer_one (l.drop e)
  have hIF := ins_flat l e x
  generalize (l.take e).flatMap encVer = F1 at *
  generalize (l.drop e).flatMap encVer = F2 at *
  generalize cur.toList.drop (l.length * 4) = R at *
  have hge := grownCap_ge w (l.length + 1) l.length 88
  have hle := grownCap_le_maxLen w (l.length + 1) l.length 88 (by unfold maxLen; omega)
  have hold : (Builtin.firstCells i0.size e (.slice (some ⟨g, 0, none⟩) e l.length)).run Try.prog w.drew = .ok F1.toArray w.drew := by
    rw [hz1]
    exact run_firstCells_some w.drew 4 e ⟨g, 0, none⟩ e l.length F1 hF1 (fun j v hj => by
      rw [Go.WideShapes.add_plain, Nat.zero_add, hG.drew.cell j, ← Array.getElem?_toList, hp, List.getElem?_append_left (List.getElem?_eq_some_iff.1 hj).1]; exact hj)
  have hkk : (l.length : Int) + 1 - (e : Int) = ((l.length + 1 - e : Nat) : Int) := by omega
  have hrz : ∀ ty, (Builtin.append_ #[30, 3] ty #[.slice (some ⟨g, 0, none⟩) e l.length, .int .i64 ((l.length : Int) + 1 - (e : Int))]).run Try.prog w =
      .ok (.slice (some ⟨w.heap.size, 0, none⟩) (l.length + 1) (grownCap w (l.length + 1) l.length 88)) (w.drew.alloc (.cells (F1.toArray ++ Builtin.zeroCells (Value.agg #[.string ⟨#[]⟩, .int .i64 0, .int .i64 0, .int .i64 0]).cells (l.length + 1 - e) ++ Builtin.zeroCells (Value.agg #[.string ⟨#[]⟩, .int .i64 0, .int .i64 0, .int .i64 0]).cells (grownCap w (l.length + 1) l.length 88 - (l.length + 1))) 88)) := fun ty => by
    have hik : e + (l.length + 1 - e) = l.length + 1 := by omega
    have h := Lib.run_append_grow_zeros w 30 3 ty 88 i0 _ .i64 .i64 Try.underlying30 Try.underlying3 hi hz0 (some ⟨g, 0, none⟩) e l.length F1 hold (l.length + 1 - e) (by omega) (by omega) (by omega) (by omega) (by rw [hz2]; omega) (by rw [hz2, hik]; exact growslice_fits (by omega) (by omega))
    rw [hik] at h
    rw [hkk]
    exact h
  obtain ⟨G, hGd⟩ : ∃ G, G = grownCap w (l.length + 1) l.length 88 := ⟨_, rfl⟩
  rw [← hGd] at hrz hge hle
  obtain ⟨Z, hZ⟩ : ∃ Z : List Value, Z = (Builtin.zeroCells (Value.agg #[.string ⟨#[]⟩, .int .i64 0, .int .i64 0, .int .i64 0]).cells (l.length + 1 - e)).toList := ⟨_, rfl⟩
  obtain ⟨Y, hY⟩ : ∃ Y : List Value, Y = (Builtin.zeroCells (Value.agg #[.string ⟨#[]⟩, .int .i64 0, .int .i64 0, .int .i64 0]).cells (G - (l.length + 1))).toList := ⟨_, rfl⟩
  have hZl : Z.length = (l.length + 1 - e) * 4 := by rw [hZ, Array.length_toList, zeroCells_size]; rfl
  have hYl : Y.length = (G - (l.length + 1)) * 4 := by rw [hY, Array.length_toList, zeroCells_size]; rfl
  have hROW : F1.toArray ++ Builtin.zeroCells (Value.agg #[.string ⟨#[]⟩, .int .i64 0, .int .i64 0, .int .i64 0]).cells (l.length + 1 - e) ++ Builtin.zeroCells (Value.agg #[.string ⟨#[]⟩, .int .i64 0, .int .i64 0, .int .i64 0]).cells (G - (l.length + 1)) = (F1 ++ (Z ++ Y)).toArray := by
    apply Array.toList_inj.1
    simp [hZ, hY]
  rw [hROW] at hrz
  clear hROW hZ hY hGd hold
  obtain ⟨N, hN⟩ : ∃ N, N = w.heap.size := ⟨_, rfl⟩
  rw [← hN] at hrz
  obtain ⟨W1, hW1⟩ : ∃ W1, W1 = w.drew.alloc (.cells (F1 ++ (Z ++ Y)).toArray 88) := ⟨_, rfl⟩
  rw [← hW1] at hrz
  have hb1 : Below w.heap.size w W1 := by rw [hW1]; exact (Below.refl _ _).drew.alloc (Nat.le_refl _) _
  have hN1 : Blk W1 N 88 (F1 ++ (Z ++ Y)).toArray := by rw [hW1, hN]; exact Blk.new w.drew _ _
  have hG1 := hG.kept hb1
  have hX1 := hX.kept hb1
  have hgN : g ≠ N := by have := hG.lt; omega
  have hxN : g2 ≠ N := by have := hX.lt; omega
  have he1 : ((e : Int) + 1).toNat = e + 1 := by omega
  have hw1 : IntKind.i64.wrap ((e : Int) + 1) = (e : Int) + 1 := by rw [IntKind.wrap_i64]; omega
  have hb1' : (0 : Int) ≤ (e : Int) + 1 := by omega
  have hb2 : (e : Int) + 1 ≤ (l.length : Int) + 1 := by omega
  have hb3 : ¬ (G = e + 1) := by omega
  have hb4 : (e : Int) ≤ (l.length : Int) + 1 := by omega
  have hb5 : ¬ (G = e) := by omega
  have hb6 : ¬ (l.length = e) := by omega
  have hb7 : (e : Int) ≤ (l.length : Int) := by omega
  have hlen1 : (F1 ++ (Z ++ Y)).length = G * 4 := by simp only [List.length_append, hF1, hZl, hYl]; omega
  have HN := Lib.hid (show (encVer x).length = Nat.min 1 (l.length + 1 - e) * 4 by simp only [Nat.min_def]; rw [if_pos (by omega)]; rfl)
  have HS := Lib.hid (src_of hX1)
  have HFIT := Lib.hid (show e * 4 + (encVer x).length ≤ (F1 ++ (Z ++ Y)).toArray.size by rw [List.size_toArray, hlen1, encVer_len]; omega)
  have H1x := Lib.hid (encVer_one1 x)
  have HN1 := Lib.hid hN1
  have HRZ := Lib.hid hrz
  have HALL := Lib.hid (⟨hp, hF1, hF2, h12, hIF, hZl, hYl, hlen1, hb1, hG1, hgN, hN⟩ : _ ∧ _ ∧ _ ∧ _ ∧ _ ∧ _ ∧ _ ∧ _ ∧ _ ∧ _ ∧ _ ∧ _)
  clear hi hz0 hz1 hz2 hp hF1 hF2 h12 hIF hZl hYl hlen1 hb1 hG1 hgN hN hX1 hN1 hrz hxN hG hX ht hkk hW1
  go_enter Try.func103, Try.ntmps103
  go_wp2_with (first
    | (at_builtin; refine Lib.wpList_append_run _ rfl (.tmp 34) (.tmp 39) 30 3 rfl _ _ rfl rfl _ _ (HRZ.out _) ?_)
    | (refine wpList_copyK rfl (.tmp 43) (.tmp 44) 30 30 rfl 88 Try.underlying30 4 szVer4 N (e * 4) (l.length + 1 - e) (G - e) ⟨g2, 0, none⟩ 1 1 rfl rfl (F1 ++ (Z ++ Y)).toArray 88 HN1.out (encVer x) HN.out HS.out HFIT.out H1x.out ?_; intro w2 hg2 hgr2; have HG2 := Lib.hid hg2; have HGR2 := Lib.hid hgr2; clear hg2 hgr2))
  obtain ⟨hp, hF1, hF2, h12, hIF, hZl, hYl, hlen1, hb1, hG1, hgN, hN⟩ := HALL.out
  have hspl : (splice (F1 ++ (Z ++ Y)) (e * 4) (encVer x)).length = G * 4 := by
    rw [length_splice _ _ _ (by rw [hlen1, encVer_len]; omega)]; exact hlen1
  have hG2 : Blk w2 g 88 cur := hG1.grown HGR2.out (by simp; exact hgN)
  have HN2 := Lib.hid (show F2.length = Nat.min (l.length - e) (l.length + 1 - (e + 1)) * 4 by rw [hF2]; congr 1; simp only [Nat.min_def]; split <;> omega)
  have HSRC2 := Lib.hid (show ∀ j v, F2[j]? = some v → w2.drew.cell? ((⟨g, e * 4, none⟩ : Addr).add j) = some v from fun j v hj => by
    rw [Go.WideShapes.add_plain]
    have hc := hG2.drew.cell (e * 4 + j)
    rw [hc, ← Array.getElem?_toList, hp, List.getElem?_append_right (by omega), hF1, show e * 4 + j - e * 4 = j by omega, List.getElem?_append_left (List.getElem?_eq_some_iff.1 hj).1]
    exact hj)
  have HFIT2 := Lib.hid (show (e + 1) * 4 + F2.length ≤ (splice (F1 ++ (Z ++ Y)) (e * 4) (encVer x)).toArray.size by rw [List.size_toArray, hspl, hF2]; omega)
  have H12 := Lib.hid h12
  have HGD := Lib.hid (show w2.drew.heap[N]? = some (.cells (splice (F1 ++ (Z ++ Y)) (e * 4) (encVer x)).toArray 88 (0, 0)) from HG2.out)
  clear hp hF1 hF2 h12 hIF hZl hYl hlen1 hb1 hG1 hgN hN hspl hG2
  go_region_law (refine step_copyK rfl (.tmp 50) (.tmp 53) 30 30 rfl 88 Try.underlying30 4 szVer4 N ((e + 1) * 4) (l.length + 1 - (e + 1)) (G - (e + 1)) ⟨g, e * 4, none⟩ (l.length - e) (l.length - e) (by simp [Act.eval, Act.put]) (by simp [Act.eval, Act.put]) (splice (F1 ++ (Z ++ Y)) (e * 4) (encVer x)).toArray 88 HGD.out F2 HN2.out HSRC2.out HFIT2.out H12.out ?_; intro w4 hg4 hgr4)
  obtain ⟨hp, hF1, hF2, h12, hIF, hZl, hYl, hlen1, hb1, hG1, hgN, hN⟩ := HALL.out
  have hrow : splice (splice (F1 ++ (Z ++ Y)) (e * 4) (encVer x)) ((e + 1) * 4) F2 = F1 ++ (encVer x ++ (F2 ++ Y)) := by
    have := splice_fill F1 F2 (encVer x) Z Y (by rw [hZl, encVer_len, hF2]; omega)
    rw [hF1, encVer_len] at this
    rw [show (e + 1) * 4 = e * 4 + 4 by omega]; exact this
  have hg6 : w4.heap[N]? = some (.cells (F1 ++ (encVer x ++ (F2 ++ Y))).toArray 88 (0, 0)) := by
    have := hg4.out
    (try simp only [List.toList_toArray] at this)
    rw [hrow] at this; exact this
  have hlF : (F1 ++ (encVer x ++ F2)).length = (l.length + 1) * 4 := by simp only [List.length_append, hF1, hF2, encVer_len]; omega
  have htk : (F1 ++ (encVer x ++ (F2 ++ Y))).take ((l.length + 1) * 4) = F1 ++ (encVer x ++ F2) := by
    have e1 : F1 ++ (encVer x ++ (F2 ++ Y)) = (F1 ++ (encVer x ++ F2)) ++ Y := by simp only [List.append_assoc]
    rw [e1, List.take_append_of_le_length (by omega), List.take_of_length_le (by omega)]
  have hsz5 : (F1 ++ (encVer x ++ (F2 ++ Y))).length = G * 4 := by
    simp only [List.length_append, hF1, hF2, hYl, encVer_len]; omega
  have HO := Lib.hid (show w4.ownsRow B 88 4 (.slice (some ⟨N, 0, none⟩) (l.length + 1) G) (l.length + 1) ((l.take e ++ x :: l.drop e).flatMap encVer) from ⟨by rw [hIF]; exact hlF, .inr ⟨N, G, (F1 ++ (encVer x ++ (F2 ++ Y))).toArray, rfl, by omega, hg6, hge, hle, by rw [List.size_toArray]; exact hsz5, by rw [hIF]; exact htk⟩⟩)
  have HGR := Lib.hid (show w.grownBy w4 (some g) from by
    have g1 := HGR2.out
    have g2 := hgr4.out
    have hsz := hb1.size
    have hsz2 := g1.size
    refine ⟨g2.os.trans (g1.os.trans hb1.os), g2.tape.trans (g1.tape.trans hb1.tape), g2.output.trans (g1.output.trans hb1.output), Nat.le_trans (Nat.le_trans hb1.size g1.size) g2.size, fun k hk _ => ?_⟩
    have e1 : w4.heap[k]? = w2.heap[k]? := g2.block k (show k < w2.heap.size by omega) (by simp; omega)
    exact e1.trans ((g1.block k (by omega) (by simp; omega)).trans (hb1.block k hk)))
  clear hp hF1 hF2 h12 hIF hZl hYl hlen1 hb1 hG1 hgN hN hrow hg6 hlF htk hsz5 hg4 hgr4
  go_wp2
  go_ret
  exact ⟨_, rfl, by simpa using HO.out, HGR.out⟩
/-- all ways in one -/
theorem ins_any (B g2 e : Nat) (v : Value) (l : List Ver) (x : Ver) (w : World) (he : e ≤ l.length) (hn : l.length ≤ 1000) (hB : B ≤ w.heap.size) (hown : OwnV w B v l) (hX : Blk w g2 88 (verC x)) (hne : some g2 ≠ v.ownBlock) :
    Calls Try.prog 103 #[v, .int .i64 e, .slice (some ⟨g2, 0, none⟩) 1 1] w fun en w' => ∃ v', en = .returned v' ∧ OwnV w' B v' (l.take e ++ x :: l.drop e) ∧ w.grownBy w' v.ownBlock := by
  have hlen : (l.take e ++ x :: l.drop e).length = l.length + 1 := by simp; omega
  unfold OwnV
  rw [hlen]
  by_cases hel : e = l.length
  · subst hel
    refine (ins_end B g2 v l x w hn hB hown hX).mono ?_
    rintro en w' ⟨v', rfl, ho, hg⟩
    refine ⟨v', rfl, ?_, hg⟩
    rw [ins_flat, List.take_length, List.drop_length]
    simpa using ho
  · rcases hown.2 with ⟨rfl, h0⟩ | ⟨g, cap, cur, rfl, hg, hG, hnc, hcm, hs, ht⟩
    · omega
    · have hne' : g2 ≠ g := fun h => hne (by rw [h]; rfl)
      by_cases hc : l.length + 1 ≤ cap
      · exact ins_room B g cap g2 e cur l x w (by omega) hn hc hcm hg hG hs ht hX hne'
      · obtain rfl : cap = l.length := by omega
        exact ins_grow B g g2 e cur l x w (by omega) hn hB hG ht hX
end Go.Proofs.Ytpjkcmmmpgncmaa
