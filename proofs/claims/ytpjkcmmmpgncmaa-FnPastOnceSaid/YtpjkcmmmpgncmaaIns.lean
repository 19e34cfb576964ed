/- slices.Insert of one version into a row of the call's own. -/
import Derived.Test.YtpjkcmmmpgncmaaVerC
import Derived.Test.YtpjkcmmmpgncmaaCopyK
namespace Go.Proofs.Ytpjkcmmmpgncmaa
open Go.RowKit
abbrev verC (x : Ver) : Array Value := #[.string x.1, .int .i64 x.2.1, .int .i64 x.2.2.1, .int .i64 x.2.2.2]
theorem szVer4 : (Try.prog.info? 88).map (·.size) = some 4 := by kernel_rfl
theorem flat_split (l : List Ver) (e : Nat) : l.flatMap encVer = (l.take e).flatMap encVer ++ (l.drop e).flatMap encVer := by
  rw [← List.flatMap_append, List.take_append_drop]
theorem row_parts {cur : Array Value} {l : List Ver} {n e : Nat} (hn : l.length = n) (ht : cur.toList.take (n * 4) = l.flatMap encVer) :
    cur.toList = (l.take e).flatMap encVer ++ ((l.drop e).flatMap encVer ++ cur.toList.drop (n * 4)) := by
  rw [← List.append_assoc, ← flat_split, ← ht, List.take_append_drop]
theorem ins_flat (l : List Ver) (e : Nat) (x : Ver) : (l.take e ++ x :: l.drop e).flatMap encVer = (l.take e).flatMap encVer ++ (encVer x ++ (l.drop e).flatMap encVer) := by simp
set_option maxRecDepth 100000 in
set_option maxHeartbeats 600000 in
theorem ins_room (B g cap g2 e : Nat) (cur : Array Value) (l : List Ver) (x : Ver) (w : World) (he : e < l.length) (hn : l.length ≤ 1000) (hcap : l.length + 1 ≤ cap) (hcm : cap ≤ maxLen) (hB : B ≤ g)
    (hG : Blk w g 88 cur) (hs : cur.size = cap * 4) (ht : cur.toList.take (l.length * 4) = l.flatMap encVer) (hX : Blk w g2 88 (verC x)) (hne : g2 ≠ g) :
    Calls Try.prog 103 #[.slice (some ⟨g, 0, none⟩) l.length cap, .int .i64 e, .slice (some ⟨g2, 0, none⟩) 1 1] w fun en w' => ∃ v, en = .returned v ∧ w'.ownsRow B 88 4 v (l.length + 1) ((l.take e ++ x :: l.drop e).flatMap encVer) ∧ w.grownBy w' (some g) := by
  have hov : ∀ o lb cb, (callFunc 142 #[.slice (some ⟨g2, 0, none⟩) 1 1, .slice (some ⟨g, o, none⟩) lb cb]).run Try.prog w = .ok (.value (.bool false)) w := fun o lb cb => by
    rw [run_callFunc_extern Try.func142 (by kernel_rfl) (by kernel_rfl) (by kernel_rfl) (e := Extern.SlicesOverlaps.overlaps #[30, 30] #[4]) (by kernel_rfl),
      Lib.run_overlaps_apart w 30 4 88 Try.underlying30 4 (fun w => Try.sizeOf88 w) ⟨g2, 0, none⟩ ⟨g, o, none⟩ 1 1 lb cb hne 88 88 4 cur.size (by simp [World.shape?, show w.heap[g2]? = _ from hX]) (by simp [World.shape?, show w.heap[g]? = _ from hG]) (by omega) (hX.frozen 0) (hX.frozen 4)]
    rfl
  have hz2 : ¬ ((e : Int) = (l.length : Int)) := by omega
  have c63 : cap ≤ 9223372036854775807 := by unfold maxLen at hcm; omega
  have q1 : decide ((cap : Int) < (l.length : Int) + 1) = false := decide_eq_false (by omega)
  have q2 : ((e : Int) == (l.length : Int)) = false := beq_eq_false_iff_ne.2 (by omega)
  have he1 : ((e : Int) + 1).toNat = e + 1 := by omega
  have hl1 : ((l.length : Int) + 1).toNat = l.length + 1 := by omega
  have hw1 : IntKind.i64.wrap ((e : Int) + 1) = (e : Int) + 1 := by rw [IntKind.wrap_i64]; omega
  have hb1 : (0 : Int) ≤ (e : Int) + 1 := by omega
  have hb2 : (e : Int) + 1 ≤ (l.length : Int) + 1 := by omega
  have hb3 : ¬ (cap = e + 1) := by omega
  have hb4 : (e : Int) ≤ (l.length : Int) + 1 := by omega
  have hb5 : ¬ (cap = e) := by omega
  have hp := row_parts (e := e) rfl ht
  have hF1 : ((l.take e).flatMap encVer).length = e * 4 := by rw [flat_len encVer_len, List.length_take, Nat.min_eq_left (by omega)]
  have hF2 : ((l.drop e).flatMap encVer).length = (l.length - e) * 4 := by rw [flat_len encVer_len, List.length_drop]
  have hR : (cur.toList.drop (l.length * 4)).length = (cap - l.length) * 4 := by rw [List.length_drop]; simp; omega
  have h12 := encVer_one (l.drop e)
  have hIF := ins_flat l e x
  generalize (l.take e).flatMap encVer = F1 at *
  generalize (l.drop e).flatMap encVer = F2 at *
  generalize cur.toList.drop (l.length * 4) = R at *
  have HN := Lib.hid (show F2.length = Nat.min (l.length + 1 - e) (l.length + 1 - (e + 1)) * 4 by rw [hF2]; congr 1; simp only [Nat.min_def]; split <;> omega)
  have HSRC := Lib.hid (show ∀ j v, F2[j]? = some v → w.drew.cell? ((⟨g, e * 4, none⟩ : Addr).add j) = some v from fun j v hj => by
    rw [Go.WideShapes.add_plain]
    have hc := hG.drew.cell (e * 4 + j)
    rw [hc, ← Array.getElem?_toList, hp, List.getElem?_append_right (by omega), hF1, show e * 4 + j - e * 4 = j by omega, List.getElem?_append_left (List.getElem?_eq_some_iff.1 hj).1]
    exact hj)
  have HFIT := Lib.hid (show (e + 1) * 4 + F2.length ≤ cur.size by rw [hF2, hs]; omega)
  have H1 := Lib.hid h12
  have HGD := Lib.hid (show w.drew.heap[g]? = some (.cells cur 88 (0, 0)) from hG)
  have HX := Lib.hid hX
  have HP := Lib.hid (⟨hp, hF1, hF2, hR, hIF, ht⟩ : _ ∧ _ ∧ _ ∧ _ ∧ _ ∧ _)
  clear hp hF1 hF2 hR h12 hIF ht hX
  go_enter Try.func103, Try.ntmps103
  go_wp2_with (simp only [hov])
  go_region_law (refine step_copyK rfl (.tmp 73) (.tmp 76) 30 30 rfl 88 Try.underlying30 4 szVer4 g ((e + 1) * 4) (l.length + 1 - (e + 1)) (cap - (e + 1)) ⟨g, e * 4, none⟩ (l.length + 1 - e) (cap - e) (by simp [Act.eval, Act.put]) (by simp [Act.eval, Act.put]) cur 88 HGD.out F2 HN.out HSRC.out HFIT.out H1.out ?_; intro w4 hg4 hgr4)
  have hX4 : Blk w4 g2 88 (verC x) := HX.out.drew.grown hgr4.out (by simp; exact hne)
  have HX4 := Lib.hid (show ∀ j v, (encVer x)[j]? = some v → w4.cell? ((⟨g2, 0, none⟩ : Addr).add j) = some v from fun j v hj => by
    rw [Go.WideShapes.add_plain, Nat.zero_add, hX4.cell j, ← Array.getElem?_toList]; exact hj)
  have HN2 := Lib.hid (show (encVer x).length = Nat.min 1 (l.length + 1 - e) * 4 by simp only [Nat.min_def]; rw [if_pos (by omega)]; rfl)
  have hspl : (splice cur.toList ((e + 1) * 4) F2).length = cur.size := by
    rw [length_splice _ _ _ (by have := HFIT.out; simpa using this)]; simp
  have HFIT2 := Lib.hid (show e * 4 + (encVer x).length ≤ (splice cur.toList ((e + 1) * 4) F2).toArray.size by rw [List.size_toArray, hspl, hs, encVer_len]; omega)
  have H12 := Lib.hid (show ∀ v ∈ encVer x, v.oneCell' = true from fun v hv => encVer_one [x] v (by simpa using hv))
  clear hX4 hspl
  go_wp2_with (refine wpList_copyK rfl (.tmp 80) (.tmp 81) 30 30 rfl 88 Try.underlying30 4 szVer4 g (e * 4) (l.length + 1 - e) (cap - e) ⟨g2, 0, none⟩ 1 1 rfl rfl (splice cur.toList ((e + 1) * 4) F2).toArray 88 hg4.out (encVer x) HN2.out HX4.out HFIT2.out H12.out ?_; intro w5 hg5 hgr5)
  obtain ⟨hp, hF1, hF2, hR, hIF, ht⟩ := HP.out
  have hrow : (splice (splice cur.toList ((e + 1) * 4) F2) (e * 4) (encVer x)) = F1 ++ (encVer x ++ (F2 ++ R.drop 4)) := by
    have := splice_ins F1 F2 (encVer x) R (by rw [hR, encVer_len]; omega)
    rw [hF1, encVer_len] at this
    rw [hp, show (e + 1) * 4 = e * 4 + 4 by omega]; exact this
  have hg6 : w5.heap[g]? = some (.cells (F1 ++ (encVer x ++ (F2 ++ R.drop 4))).toArray 88 (0, 0)) := by
    have := hg5
    (try simp only [List.toList_toArray] at this)
    rw [hrow] at this; exact this
  have hlF : (F1 ++ (encVer x ++ F2)).length = (l.length + 1) * 4 := by simp [hF1, hF2, encVer_len]; omega
  have htk : (F1 ++ (encVer x ++ (F2 ++ R.drop 4))).take ((l.length + 1) * 4) = F1 ++ (encVer x ++ F2) := by
    have e1 : F1 ++ (encVer x ++ (F2 ++ R.drop 4)) = (F1 ++ (encVer x ++ F2)) ++ R.drop 4 := by simp only [List.append_assoc]
    rw [e1, List.take_append_of_le_length (by omega), List.take_of_length_le (by omega)]
  have hsz5 : (F1 ++ (encVer x ++ (F2 ++ R.drop 4))).length = cap * 4 := by
    simp only [List.length_append, List.length_drop, hF1, hF2, hR, encVer_len]; omega
  have HO := Lib.hid (show w5.ownsRow B 88 4 (.slice (some ⟨g, 0, none⟩) (l.length + 1) cap) (l.length + 1) ((l.take e ++ x :: l.drop e).flatMap encVer) from ⟨by rw [hIF]; exact hlF, .inr ⟨g, cap, (F1 ++ (encVer x ++ (F2 ++ R.drop 4))).toArray, rfl, hB, hg6, by omega, hcm, by rw [List.size_toArray]; exact hsz5, by rw [hIF]; exact htk⟩⟩)
  have HGR := Lib.hid (show w.grownBy w5 (some g) from (show w.grownBy w4 (some g) from ⟨hgr4.out.os, hgr4.out.tape, hgr4.out.output, hgr4.out.size, hgr4.out.block⟩).trans hgr5)
  clear hp hF1 hF2 hR hIF ht hrow hg6 hlF hg5 hgr5 htk hsz5
  go_ret
  exact ⟨_, rfl, by simpa using HO.out, HGR.out⟩
end Go.Proofs.Ytpjkcmmmpgncmaa
