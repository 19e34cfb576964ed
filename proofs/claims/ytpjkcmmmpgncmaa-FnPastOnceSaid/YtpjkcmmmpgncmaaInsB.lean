/- slices.Insert of one version: at the end, and where there is no room; all ways in one. -/
import Derived.Test.YtpjkcmmmpgncmaaIns
namespace Go.Proofs.Ytpjkcmmmpgncmaa
open Go.RowKit
theorem encVer_one1 (x : Ver) : ∀ v ∈ encVer x, v.oneCell' = true := fun v hv => encVer_one [x] v (by simpa using hv)
theorem src_of {w : World} {g2 : Nat} {x : Ver} (hX : Blk w g2 88 (verC x)) : ∀ j v, (encVer x)[j]? = some v → w.cell? ((⟨g2, 0, none⟩ : Addr).add j) = some v := fun j v hj => by
  rw [Go.WideShapes.add_plain, Nat.zero_add, hX.cell j, ← Array.getElem?_toList]; exact hj
set_option maxRecDepth 100000 in
set_option maxHeartbeats 600000 in
theorem ins_end (B g2 : Nat) (v : Value) (l : List Ver) (x : Ver) (w : World) (hn : l.length ≤ 1000) (hB : B ≤ w.heap.size) (hown : w.ownsRow B 88 4 v l.length (l.flatMap encVer)) (hX : Blk w g2 88 (verC x)) :
    Calls Try.prog 103 #[v, .int .i64 l.length, .slice (some ⟨g2, 0, none⟩) 1 1] w fun en w' => ∃ v', en = .returned v' ∧ w'.ownsRow B 88 4 v' (l.length + 1) (l.flatMap encVer ++ encVer x) ∧ w.grownBy w' v.ownBlock := by
  obtain ⟨i0, hi, hz0, hz1, hz2⟩ := info_parts infoVer
  have HI := Lib.hid (⟨hi, hz0, hz1, hz2⟩ : _ ∧ _ ∧ _ ∧ _)
  clear hi hz0 hz1 hz2
  have HX := Lib.hid (src_of hX)
  have H1 := Lib.hid (encVer_one1 x)
  have HBW := Lib.hid hB
  have HO := Lib.hid hown
  have hl63 : (l.length : Int) ≤ 9223372036854775807 := by omega
  have hm1 : l.length + 1 ≤ maxLen := by unfold maxLen; omega
  have hm2 : (l.length + 1) * 40 ≤ 140737488355328 := by omega
  have hcases : (∃ c, v = .slice none l.length c ∧ c = 0 ∧ l.length = 0) ∨ ∃ g cap, v = .slice (some ⟨g, 0, none⟩) l.length cap ∧ l.length ≤ cap := by
    rcases hown.2 with ⟨rfl, h0⟩ | ⟨g, cap, cur, rfl, _, _, hnc, _⟩
    · exact .inl ⟨0, by rw [h0], rfl, h0⟩
    · exact .inr ⟨g, cap, rfl, hnc⟩
  clear hown hX
  rcases hcases with ⟨c, rfl, rfl, h0⟩ | ⟨g, cap, rfl, hnc⟩
  · obtain rfl : l = [] := List.eq_nil_of_length_eq_zero h0
    have HO' := Lib.hid (show w.ownsRow B 88 4 (.slice none 0 0) 0 [] from HO.out)
    have hm3 : 0 + 1 ≤ maxLen := hm1
    have hm4 : (0 + 1) * 40 ≤ 140737488355328 := by decide
    simp only [List.length_nil, List.flatMap_nil, List.nil_append] at *
    clear h0 hm1 hm2 hl63 hn
    go_enter Try.func103, Try.ntmps103
    go_wp2_with (at_builtin; refine wpList_append_own _ rfl (.tmp 23) (.tmp 24) 30 rfl B 88 i0 _ 4 40 Try.underlying30 HI.out.1 HI.out.2.1 HI.out.2.2.1 HI.out.2.2.2 rfl (by decide) (.slice none 0 0) 0 [] rfl HO'.out ⟨g2, 0, none⟩ 1 1 (encVer x) rfl rfl HX.out H1.out hm3 hm4 HBW.out ?_; intro v' w2 hown2 hgrow _; have HO2 := Lib.hid hown2; have HG2 := Lib.hid hgrow; clear hown2 hgrow)
    go_ret
    exact ⟨_, rfl, by simpa using HO2.out, HG2.out⟩
  · have hq : ((l.length : Int) == (l.length : Int)) = true := by simp
    by_cases hc : cap = l.length
    · subst hc
      go_enter Try.func103, Try.ntmps103
      go_wp2_with (at_builtin; refine wpList_append_own _ rfl (.tmp 23) (.tmp 24) 30 rfl B 88 i0 _ 4 40 Try.underlying30 HI.out.1 HI.out.2.1 HI.out.2.2.1 HI.out.2.2.2 rfl (by decide) (.slice (some ⟨g, 0, none⟩) l.length l.length) l.length (l.flatMap encVer) rfl HO.out ⟨g2, 0, none⟩ 1 1 (encVer x) rfl rfl HX.out H1.out hm1 hm2 HBW.out ?_; intro v' w2 hown2 hgrow _; have HO2 := Lib.hid hown2; have HG2 := Lib.hid hgrow; clear hown2 hgrow)
      go_ret
      exact ⟨_, rfl, HO2.out, HG2.out⟩
    · go_enter Try.func103, Try.ntmps103
      go_wp2_with (at_builtin; refine wpList_append_own _ rfl (.tmp 23) (.tmp 24) 30 rfl B 88 i0 _ 4 40 Try.underlying30 HI.out.1 HI.out.2.1 HI.out.2.2.1 HI.out.2.2.2 rfl (by decide) (.slice (some ⟨g, 0, none⟩) l.length cap) l.length (l.flatMap encVer) rfl HO.out ⟨g2, 0, none⟩ 1 1 (encVer x) rfl rfl HX.out H1.out hm1 hm2 HBW.out ?_; intro v' w2 hown2 hgrow _; have HO2 := Lib.hid hown2; have HG2 := Lib.hid hgrow; clear hown2 hgrow)
      go_ret
      exact ⟨_, rfl, HO2.out, HG2.out⟩
end Go.Proofs.Ytpjkcmmmpgncmaa
