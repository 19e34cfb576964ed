/- Marking a store that the caller owns, and whether it holds its marks; marking rows of writes. -/
import Derived.Test.YteanjfjlmpgnnaaMark
import Derived.Test.YteanjfjlmpgnnaaVrSz
import Derived.Test.YteanjfjlmpgnnaaL2W
import Derived.Lib.SmallJoins
import Derived.Laws.OwnMore
namespace Go.Proofs.Yteanjfjlmpgnnaa
open Go.RowKit
def mkOne (k i : Nat) : Ver := (mt (k + 4 * i), ((k + 4 * i + 1 : Nat) : Int), ((k + 4 * i + 2 : Nat) : Int), ((k + 4 * i + 3 : Nat) : Int))
def mkV (k j : Nat) : List Ver := (List.range j).map (mkOne k)
theorem mkV_len (k j : Nat) : (mkV k j).length = j := by simp [mkV]
theorem mkV_succ (k j : Nat) : mkV k (j + 1) = mkV k j ++ [mkOne k j] := by simp [mkV, List.range_succ]
theorem mkV_get (k : Nat) {n j : Nat} (h : j < (mkV k n).length) : (mkV k n)[j] = mkOne k j := by simp [mkV]
/-- the list after j rounds of the marking -/
def midV (k : Nat) (l : List Ver) (j : Nat) : List Value := (mkV k j ++ l.drop j).flatMap encVer
theorem midV_zero (k : Nat) (l : List Ver) : midV k l 0 = l.flatMap encVer := by simp [midV, mkV]
theorem midV_all (k : Nat) (l : List Ver) : midV k l l.length = (mkV k l.length).flatMap encVer := by simp [midV]
theorem ownT_has {w : World} {B g c n i s : Nat} {T : TypeId} {xs : List Value} (h : w.ownsRow B T s (.slice (some ⟨g, 0, none⟩) n c) n xs) (hi : i < n * s) : ∃ u, w.cell? ⟨g, i, none⟩ = some u := by
  rw [h.cellAt i hi]; exact ⟨_, List.getElem?_eq_getElem (by rw [h.1]; exact hi)⟩
theorem gtrans5 {w w1 w2 w3 w4 w5 : World} {r : Option Nat} (h : w.grownBy w1 r) (h2 : w1.grownBy w2 r) (h3 : w2.grownBy w3 r) (h4 : w3.grownBy w4 r) (h5 : w4.grownBy w5 r) : w.grownBy w5 r := gtrans (gtrans (gtrans (gtrans h h2) h3) h4) h5
theorem midV_step (k : Nat) (l : List Ver) {j : Nat} (h : j < l.length) :
    ((((midV k l j).set (j * 4) (.string (mt (k + 4 * j)))).set (j * 4 + 1) (.int .i64 ((k + 4 * j + 1 : Nat) : Int))).set (j * 4 + 2) (.int .i64 ((k + 4 * j + 2 : Nat) : Int))).set (j * 4 + 3) (.int .i64 ((k + 4 * j + 3 : Nat) : Int)) = midV k l (j + 1) := by
  have hl : ((mkV k j).flatMap encVer).length = j * 4 := by rw [flat_len encVer_len, mkV_len]
  have hd := List.drop_eq_getElem_cons h
  unfold midV
  rw [mkV_succ, hd]
  generalize l[j] = x
  generalize l.drop (j + 1) = r
  rw [List.flatMap_append, List.flatMap_append, List.flatMap_append]
  rw [List.set_append_right _ _ (by omega), List.set_append_right _ _ (by omega), List.set_append_right _ _ (by omega), List.set_append_right _ _ (by omega), hl]
  simp [encVer, mkOne]
set_option maxRecDepth 100000 in
set_option maxHeartbeats 1000000 in
theorem markV_some (B g c : Nat) (l : List Ver) (k : Nat) (w : World) (hk : k + 4 * l.length < 4611686018427387904) (hn : l.length ≤ 1073741824) (hB : B ≤ w.heap.size)
    (hown : w.ownsRow B 92 4 (.slice (some ⟨g, 0, none⟩) l.length c) l.length (l.flatMap encVer)) :
    Calls Try.prog 81 #[.slice (some ⟨g, 0, none⟩) l.length c, .int .i64 k] w fun e w' => e = .returned (.int .i64 (k + 4 * l.length : Nat)) ∧ w'.ownsRow B 92 4 (.slice (some ⟨g, 0, none⟩) l.length c) l.length ((mkV k l.length).flatMap encVer) ∧ w.grownBy w' (some g) := by
  have hBg := (hown.lt g rfl).1
  rw [← midV_zero k] at hown
  go_enter Try.func81, Try.ntmps81
  go_wp2
  go_loopw [1, 5] (fun a b wr => ∃ j : Nat, j ≤ l.length ∧ a = .int .i64 (k + 4 * j : Nat) ∧ b = .int .i64 j ∧ wr.ownsRow B 92 4 (.slice (some ⟨g, 0, none⟩) l.length c) l.length (midV k l j) ∧ w.grownBy wr (some g)) (fun _ b _ => l.length - (intOf b).toNat)
  case atStart => exact ⟨0, by omega, rfl, rfl, hown, World.grownBy.refl _ _⟩
  case round =>
    obtain ⟨j, hj, rfl, rfl, ho, hb⟩ := hrel
    by_cases hlt : j < l.length
    · have HS := Lib.hid (midV_step k l hlt)
      go_wp2_with fail
      refine (markText_any (k + 4 * j) wr (by omega)).mono ?_
      rintro e w1 ⟨rfl, hb1⟩
      have ho1 := own_kept ho hb1
      obtain ⟨u0, hc0⟩ := ownT_has ho1 (i := j * 4) (by omega)
      have hf0 := ho1.frozenAt (j * 4)
      have ho2 := (ho1.stored (j * 4) (.string (mt (k + 4 * j)))).1
      obtain ⟨u1, hc1⟩ := ownT_has ho2 (i := j * 4 + 1) (by omega)
      have hf1 := ho2.frozenAt (j * 4 + 1)
      have ho3 := (ho2.stored (j * 4 + 1) (.int .i64 ((k + 4 * j + 1 : Nat) : Int))).1
      obtain ⟨u2, hc2⟩ := ownT_has ho3 (i := j * 4 + 2) (by omega)
      have hf2 := ho3.frozenAt (j * 4 + 2)
      have ho4 := (ho3.stored (j * 4 + 2) (.int .i64 ((k + 4 * j + 2 : Nat) : Int))).1
      obtain ⟨u3, hc3⟩ := ownT_has ho4 (i := j * 4 + 3) (by omega)
      have hf3 := ho4.frozenAt (j * 4 + 3)
      have ho5 := (ho4.stored (j * 4 + 3) (.int .i64 ((k + 4 * j + 3 : Nat) : Int))).1
      rw [HS.out] at ho5
      have hb2 := gtrans5 (gtrans hb (gbelow hb1)) (ho1.stored (j * 4) (.string (mt (k + 4 * j)))).2 (ho2.stored (j * 4 + 1) (.int .i64 ((k + 4 * j + 1 : Nat) : Int))).2 (ho3.stored (j * 4 + 2) (.int .i64 ((k + 4 * j + 2 : Nat) : Int))).2 (ho4.stored (j * 4 + 3) (.int .i64 ((k + 4 * j + 3 : Nat) : Int))).2
      have e1 : ((k + 4 * j + 1 : Nat) : Int) = (k : Int) + 4 * (j : Int) + 1 := by omega
      have e2 : ((k + 4 * j + 2 : Nat) : Int) = (k : Int) + 4 * (j : Int) + 1 + 1 := by omega
      have e3 : ((k + 4 * j + 3 : Nat) : Int) = (k : Int) + 4 * (j : Int) + 1 + 1 + 1 := by omega
      rw [e3, e2, e1] at hb2 ho5
      rw [e2, e1] at hc3 hf3
      rw [e1] at hc2 hf2
      clear ho1 ho2 ho3 ho4 e1 e2 e3
      go_wp2
      go_roundw
      case rel => exact ⟨j + 1, by omega, vint (by omega), by go_num, ho5, hb2⟩
      case measure => simp [intOf]; omega
    · obtain rfl : j = l.length := by omega
      go_wp2
      rw [midV_all] at ho
      go_ret
      exact ⟨rfl, ho, hb⟩
set_option maxRecDepth 100000 in
theorem markV_none (c k : Nat) (w : World) :
    Calls Try.prog 81 #[.slice none 0 c, .int .i64 k] w fun e w' => e = .returned (.int .i64 k) ∧ w' = w := by
  go_enter Try.func81, Try.ntmps81
  go_wp2
  go_loopw [1, 5] (fun a b wr => a = .int .i64 k ∧ b = .int .i64 0 ∧ wr = w) (fun _ _ _ => 0)
  case atStart => exact ⟨rfl, rfl, rfl⟩
  case round =>
    obtain ⟨rfl, rfl, rfl⟩ := hrel
    go_wp2
    go_ret
    exact ⟨rfl, rfl⟩
theorem markV_any (B : Nat) (A : Option Addr) (c : Nat) (l : List Ver) (k : Nat) (w : World) (hk : k + 4 * l.length < 4611686018427387904) (hn : l.length ≤ 1073741824) (hB : B ≤ w.heap.size)
    (hown : OwnV w B (.slice A l.length c) l) :
    Calls Try.prog 81 #[.slice A l.length c, .int .i64 k] w fun e w' => e = .returned (.int .i64 (k + 4 * l.length : Nat)) ∧ Sl encVer 4 w' A (mkV k l.length) ∧ w.grownBy w' (Value.slice A l.length c).ownBlock := by
  rcases Go.Joins.ownsRow_forms hown with ⟨he, h0⟩ | ⟨g, cap, he⟩
  · obtain rfl := List.eq_nil_of_length_eq_zero h0
    simp at he
    obtain ⟨rfl, rfl⟩ := he
    refine (markV_none 0 k w).mono ?_
    rintro e w' ⟨rfl, rfl⟩
    exact ⟨rfl, Sl.nil _ _ _ _, World.grownBy.refl _ _⟩
  · simp at he
    obtain ⟨rfl, rfl⟩ := he
    refine (markV_some B g c l k w hk hn hB hown).mono ?_
    rintro e w' ⟨rfl, ho, hb⟩
    have ho' : w'.ownsRow B 92 4 (.slice (some ⟨g, 0, none⟩) (mkV k l.length).length c) (mkV k l.length).length ((mkV k l.length).flatMap encVer) := by rw [mkV_len]; exact ho
    obtain ⟨A, c', hv, _, _, hR⟩ := Sl.of_own encVer_len ho'
    simp at hv
    obtain ⟨rfl, rfl⟩ := hv
    exact ⟨rfl, hR, hb⟩
set_option maxHeartbeats 400000 in
theorem markVers_any (B : Nat) (A : Option Addr) (c : Nat) (l : List Ver) (now : Int) (k : Nat) (w : World) (hk : k + 4 * l.length < 4611686018427387904) (hn : l.length ≤ 1073741824) (hB : B ≤ w.heap.size)
    (hown : OwnV w B (.slice A l.length c) l) :
    Calls Try.prog 43 #[.agg #[.int .i64 now, .slice A l.length c], .int .i64 k] w fun e w' => e = .returned (.int .i64 (k + 4 * l.length : Nat)) ∧ Sl encVer 4 w' A (mkV k l.length) ∧ w.grownBy w' (Value.slice A l.length c).ownBlock := by
  have hb0 := (Below.refl w.heap.size w).alloc (Nat.le_refl _) (.cells #[.int .i64 now, .slice A l.length c] 32)
  have HC := Lib.hid (markV_any B A c l k (w.alloc (.cells #[.int .i64 now, .slice A l.length c] 32)) hk hn (by simp; omega) (own_kept hown hb0))
  clear hown
  go_enter Try.func43, Try.ntmps43
  go_wp2_with fail
  refine HC.out.mono ?_
  rintro e w1 ⟨rfl, hS, hb1⟩
  have HS := Lib.hid hS
  clear hS
  go_wp2
  go_ret
  exact ⟨rfl, HS.out, gtrans (gbelow hb0) hb1⟩
end Go.Proofs.Yteanjfjlmpgnnaa
