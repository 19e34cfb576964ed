/- markLetterS and heldLetterS over a list that the caller owns. -/
import Derived.Test.YtannpeedfakhkaaDoorMark
import Derived.Test.YtannpeedfakhkaaDoorLetD
import Derived.Lib.SmallJoins
import Derived.Laws.OwnMore
namespace Go.Proofs.YtannpeedfakhkaaDoor
open Go.RowKit
def mkL (k j : Nat) : List Let := (List.range j).map (fun i => (mt (k + 2 * i), mt (k + 2 * i + 1)))
theorem mkL_len (k j : Nat) : (mkL k j).length = j := by simp [mkL]
theorem mkL_succ (k j : Nat) : mkL k (j + 1) = mkL k j ++ [(mt (k + 2 * j), mt (k + 2 * j + 1))] := by simp [mkL, List.range_succ]
theorem mkL_get (k : Nat) {n j : Nat} (h : j < (mkL k n).length) : (mkL k n)[j] = (mt (k + 2 * j), mt (k + 2 * j + 1)) := by simp [mkL]
/-- the list after j rounds of the marking -/
def midL (k : Nat) (l : List Let) (j : Nat) : List Value := (mkL k j ++ l.drop j).flatMap encLet
theorem midL_zero (k : Nat) (l : List Let) : midL k l 0 = l.flatMap encLet := by simp [midL, mkL]
theorem midL_all (k : Nat) (l : List Let) : midL k l l.length = (mkL k l.length).flatMap encLet := by simp [midL]
theorem own_has {w : World} {B g c n i : Nat} {T : TypeId} {xs : List Value} (h : w.ownsRow B T 2 (.slice (some ⟨g, 0, none⟩) n c) n xs) (hi : i < n * 2) : ∃ u, w.cell? ⟨g, i, none⟩ = some u := by
  rw [h.cellAt i hi]; exact ⟨_, List.getElem?_eq_getElem (by rw [h.1]; exact hi)⟩
theorem midL_step (k : Nat) (l : List Let) {j : Nat} (h : j < l.length) : ((midL k l j).set (j * 2) (.string (mt (k + 2 * j)))).set (j * 2 + 1) (.string (mt (k + 2 * j + 1))) = midL k l (j + 1) := by
  have hl : ((mkL k j).flatMap encLet).length = j * 2 := by rw [flat_len encLet_len, mkL_len]
  have hd := List.drop_eq_getElem_cons h
  unfold midL
  rw [mkL_succ, hd]
  generalize l[j] = x
  generalize l.drop (j + 1) = r
  rw [List.flatMap_append, List.flatMap_append, List.flatMap_append]
  rw [List.set_append_right _ _ (by omega), List.set_append_right _ _ (by omega), hl]
  simp [encLet]
set_option maxRecDepth 100000 in
set_option maxHeartbeats 400000 in
theorem markS_some (B g c : Nat) (l : List Let) (k : Nat) (w : World) (hk : k + 2 * l.length < 4611686018427387904) (hn : l.length ≤ 1073741824) (hB : B ≤ w.heap.size)
    (hown : w.ownsRow B 23 2 (.slice (some ⟨g, 0, none⟩) l.length c) l.length (l.flatMap encLet)) :
    Calls Tryd.prog 18 #[.slice (some ⟨g, 0, none⟩) l.length c, .int .i64 k] w fun e w' => e = .returned (.int .i64 (k + 2 * l.length : Nat)) ∧ w'.ownsRow B 23 2 (.slice (some ⟨g, 0, none⟩) l.length c) l.length ((mkL k l.length).flatMap encLet) ∧ Below B w w' := by
  have hBg := (hown.lt g rfl).1
  rw [← midL_zero k] at hown
  go_enter Tryd.func18, Tryd.ntmps18
  go_wp2
  go_loopw [1, 5] (fun a b wr => ∃ j : Nat, j ≤ l.length ∧ a = .int .i64 (k + 2 * j : Nat) ∧ b = .int .i64 j ∧ wr.ownsRow B 23 2 (.slice (some ⟨g, 0, none⟩) l.length c) l.length (midL k l j) ∧ Below B w wr) (fun _ b _ => l.length - (intOf b).toNat)
  case atStart => exact ⟨0, by omega, rfl, rfl, hown, Below.refl _ _⟩
  case round =>
    obtain ⟨j, hj, rfl, rfl, ho, hb⟩ := hrel
    by_cases hlt : j < l.length
    · have HS := Lib.hid (midL_step k l hlt)
      go_wp2_with fail
      refine (markText_any (k + 2 * j) wr (by omega)).mono ?_
      rintro e w1 ⟨rfl, hb1⟩
      have ho1 := own_kept ho hb1
      obtain ⟨u0, hc0⟩ := own_has ho1 (i := j * 2) (by omega)
      have hf0 := ho1.frozenAt (j * 2)
      have ho2 := (ho1.stored (j * 2) (.string (mt (k + 2 * j)))).1
      have hb2 := (hb.trans (hb1.mono (Nat.le_trans hB hb.size))).setCell (p := ⟨g, j * 2, none⟩) hBg (.string (mt (k + 2 * j)))
      go_wp2_with fail
      refine (markText_any (k + 2 * j + 1) _ (by omega)).mono ?_
      rintro e w2 ⟨rfl, hb3⟩
      have ho3 := own_kept ho2 hb3
      obtain ⟨u1, hc1⟩ := own_has ho3 (i := j * 2 + 1) (by omega)
      have hf1 := ho3.frozenAt (j * 2 + 1)
      have ho4 := (ho3.stored (j * 2 + 1) (.string (mt (k + 2 * j + 1)))).1
      rw [HS.out] at ho4
      have hb4 := (hb2.trans (hb3.mono (Nat.le_trans hB hb2.size))).setCell (p := ⟨g, j * 2 + 1, none⟩) hBg (.string (mt (k + 2 * j + 1)))
      go_wp2
      go_roundw
      case rel => exact ⟨j + 1, by omega, vint (by omega), by go_num, ho4, hb4⟩
      case measure => simp [intOf]; omega
    · obtain rfl : j = l.length := by omega
      go_wp2
      rw [midL_all] at ho
      go_ret
      exact ⟨rfl, ho, hb⟩
set_option maxRecDepth 100000 in
set_option maxHeartbeats 400000 in
theorem heldS_any (A : Option Addr) (c n k : Nat) (w : World) (hk : k + 2 * n < 4611686018427387904) (hn : n ≤ 1073741824) (hR : Sl encLet 2 w A (mkL k n)) :
    Calls Tryd.prog 19 #[.slice A n c, .int .i64 k] w fun e w' => e = .returned (.int .i64 (k + 2 * n : Nat)) ∧ Below w.heap.size w w' := by
  go_enter Tryd.func19, Tryd.ntmps19
  go_wp2
  go_loopw [1, 5] (fun a b wr => ∃ j : Nat, j ≤ n ∧ a = .int .i64 (k + 2 * j : Nat) ∧ b = .int .i64 j ∧ Below w.heap.size w wr) (fun _ b _ => n - (intOf b).toNat)
  case atStart => exact ⟨0, by omega, rfl, rfl, Below.refl _ _⟩
  case round =>
    obtain ⟨j, hj, rfl, rfl, hb⟩ := hrel
    by_cases hlt : j < n
    · have hlt' : j < (mkL k n).length := by rw [mkL_len]; exact hlt
      obtain ⟨b, o, rfl, hbl, c0, c1⟩ := Sl.at2 (hR.below hb) hlt'
      rw [mkL_get k hlt'] at c0 c1
      clear hR
      go_wp2_with fail
      refine wp_region_below (by kernel_rfl) (by kernel_rfl) ?_
      iterate 8 (refine wpQuiet_step (fun K hK => ?_); go_simp; first | (apply Exists.intro; refine ⟨fun W hW => ?_, hK _ ?_⟩; (first | rfl | (go_at_call 37; exact quiet_call hW (Nat.le_refl _) (markText_any (k + 2 * j) _ (by omega))) | (have e0 := (hW.cell (p := ⟨b, o + j * 2, none⟩) hbl).trans c0; go_simp; rfl)); clear hK K) | (refine hK _ ?_; clear hK K))
      refine wpQuiet_nil ?_
      intro W hW
      have d1 := (hW.cell (p := ⟨b, o + j * 2 + 1, none⟩) hbl).trans c1
      have hbl1 := Nat.lt_of_lt_of_le hbl hW.size
      have hb1 := bthen hb hW
      clear hb hW c0 c1 hbl
      go_wp2_with fail
      refine wp_region_below (by kernel_rfl) (by kernel_rfl) ?_
      iterate 8 (refine wpQuiet_step (fun K hK => ?_); go_simp; first | (apply Exists.intro; refine ⟨fun W hW => ?_, hK _ ?_⟩; (first | rfl | (go_at_call 37; exact quiet_call hW (Nat.le_refl _) (markText_any (k + 2 * j + 1) _ (by omega))) | (have e1 := (hW.cell (p := ⟨b, o + j * 2 + 1, none⟩) hbl1).trans d1; go_simp; rfl)); clear hK K) | (refine hK _ ?_; clear hK K))
      refine wpQuiet_nil ?_
      intro W hW
      have hb2 := bthen hb1 hW
      clear hW d1 hb1
      go_wp2
      go_roundw
      case rel => exact ⟨j + 1, by omega, vint (by omega), by go_num, hb2⟩
      case measure => simp [intOf]; omega
    · obtain rfl : j = n := by omega
      go_wp2
      go_ret
      exact ⟨rfl, hb⟩
end Go.Proofs.YtannpeedfakhkaaDoor
