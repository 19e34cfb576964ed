/- Marking a row of writes that the caller owns, and whether it holds its marks. -/
import Derived.Test.YteanjfjlmpgnnaaWrMk
import Derived.Test.YteanjfjlmpgnnaaWriEq
namespace Go.Proofs.Yteanjfjlmpgnnaa
open Go.RowKit
def mkG (k i : Nat) : Bool := decide (((k : Int) + 3 * (i : Int) + 1 + 1).tmod 3 = 0)
def mkWOne (k i : Nat) : Wri := (mt (k + 3 * i), ((k + 3 * i + 1 : Nat) : Int), mkG k i)
def mkW (k j : Nat) : List Wri := (List.range j).map (mkWOne k)
theorem mkW_len (k j : Nat) : (mkW k j).length = j := by simp [mkW]
theorem mkW_succ (k j : Nat) : mkW k (j + 1) = mkW k j ++ [mkWOne k j] := by simp [mkW, List.range_succ]
theorem mkW_get (k : Nat) {n j : Nat} (h : j < (mkW k n).length) : (mkW k n)[j] = mkWOne k j := by simp [mkW]
/-- the list after j rounds of the marking -/
def midW (k : Nat) (l : List Wri) (j : Nat) : List Value := (mkW k j ++ l.drop j).flatMap encWri
theorem midW_zero (k : Nat) (l : List Wri) : midW k l 0 = l.flatMap encWri := by simp [midW, mkW]
theorem midW_all (k : Nat) (l : List Wri) : midW k l l.length = (mkW k l.length).flatMap encWri := by simp [midW]
theorem midW_step (k : Nat) (l : List Wri) {j : Nat} (h : j < l.length) :
    (((midW k l j).set (j * 3) (.string (mt (k + 3 * j)))).set (j * 3 + 1) (.int .i64 ((k + 3 * j + 1 : Nat) : Int))).set (j * 3 + 2) (.bool (mkG k j)) = midW k l (j + 1) := by
  have hl : ((mkW k j).flatMap encWri).length = j * 3 := by rw [flat_len encWri_len, mkW_len]
  have hd := List.drop_eq_getElem_cons h
  unfold midW
  rw [mkW_succ, hd]
  generalize l[j] = x
  generalize l.drop (j + 1) = r
  rw [List.flatMap_append, List.flatMap_append, List.flatMap_append]
  rw [List.set_append_right _ _ (by omega), List.set_append_right _ _ (by omega), List.set_append_right _ _ (by omega), hl]
  simp [encWri, mkWOne]
theorem gtrans4 {w w1 w2 w3 w4 : World} {r : Option Nat} (h : w.grownBy w1 r) (h2 : w1.grownBy w2 r) (h3 : w2.grownBy w3 r) (h4 : w3.grownBy w4 r) : w.grownBy w4 r := gtrans (gtrans (gtrans h h2) h3) h4
set_option maxRecDepth 100000 in
set_option maxHeartbeats 1000000 in
theorem markWH_some (B g c : Nat) (l : List Wri) (k : Nat) (w : World) (hk : k + 3 * l.length < 4611686018427387904) (hn : l.length ≤ 1073741824) (_ : B ≤ w.heap.size)
    (hown : w.ownsRow B 46 3 (.slice (some ⟨g, 0, none⟩) l.length c) l.length (l.flatMap encWri)) :
    Calls Try.prog 82 #[.slice (some ⟨g, 0, none⟩) l.length c, .int .i64 k] w fun e w' => e = .returned (.int .i64 (k + 3 * l.length : Nat)) ∧ w'.ownsRow B 46 3 (.slice (some ⟨g, 0, none⟩) l.length c) l.length ((mkW k l.length).flatMap encWri) ∧ w.grownBy w' (some g) := by
  have hBg := (hown.lt g rfl).1
  rw [← midW_zero k] at hown
  go_enter Try.func82, Try.ntmps82
  go_wp2
  go_loopw [1, 5] (fun a b wr => ∃ j : Nat, j ≤ l.length ∧ a = .int .i64 (k + 3 * j : Nat) ∧ b = .int .i64 j ∧ wr.ownsRow B 46 3 (.slice (some ⟨g, 0, none⟩) l.length c) l.length (midW k l j) ∧ w.grownBy wr (some g)) (fun _ b _ => l.length - (intOf b).toNat)
  case atStart => exact ⟨0, by omega, rfl, rfl, hown, World.grownBy.refl _ _⟩
  case round =>
    obtain ⟨j, hj, rfl, rfl, ho, hb⟩ := hrel
    by_cases hlt : j < l.length
    · have HS := Lib.hid (midW_step k l hlt)
      go_wp2_with fail
      refine (markText_any (k + 3 * j) wr (by omega)).mono ?_
      rintro e w1 ⟨rfl, hb1⟩
      have ho1 := own_kept ho hb1
      obtain ⟨u0, hc0⟩ := ownW_has ho1 (i := j * 3) (by omega)
      have hf0 := ho1.frozenAt (j * 3)
      have ho2 := (ho1.stored (j * 3) (.string (mt (k + 3 * j)))).1
      obtain ⟨u1, hc1⟩ := ownW_has ho2 (i := j * 3 + 1) (by omega)
      have hf1 := ho2.frozenAt (j * 3 + 1)
      have ho3 := (ho2.stored (j * 3 + 1) (.int .i64 ((k + 3 * j + 1 : Nat) : Int))).1
      obtain ⟨u2, hc2⟩ := ownW_has ho3 (i := j * 3 + 2) (by omega)
      have hf2 := ho3.frozenAt (j * 3 + 2)
      have ho4 := (ho3.stored (j * 3 + 2) (.bool (mkG k j))).1
      rw [HS.out] at ho4
      have hb2 := gtrans4 (gtrans hb (gbelow hb1)) (ho1.stored (j * 3) (.string (mt (k + 3 * j)))).2 (ho2.stored (j * 3 + 1) (.int .i64 ((k + 3 * j + 1 : Nat) : Int))).2 (ho3.stored (j * 3 + 2) (.bool (mkG k j))).2
      have e1 : ((k + 3 * j + 1 : Nat) : Int) = (k : Int) + 3 * (j : Int) + 1 := by omega
      rw [e1] at hb2 ho4
      rw [e1] at hc2 hf2
      have HO := Lib.hid ho4
      have HB := Lib.hid hb2
      clear ho1 ho2 ho3 ho4 hb2 e1
      go_wp2
      go_roundw
      case rel => exact ⟨j + 1, by omega, vint (by omega), by go_num, HO.out, HB.out⟩
      case measure => simp [intOf]; omega
    · obtain rfl : j = l.length := by omega
      go_wp2
      rw [midW_all] at ho
      go_ret
      exact ⟨rfl, ho, hb⟩
theorem markWH_any (B : Nat) (A : Option Addr) (c : Nat) (l : List Wri) (k : Nat) (w : World) (hk : k + 3 * l.length < 4611686018427387904) (hn : l.length ≤ 1073741824) (hB : B ≤ w.heap.size)
    (hown : w.ownsRow B 46 3 (.slice A l.length c) l.length (l.flatMap encWri)) :
    Calls Try.prog 82 #[.slice A l.length c, .int .i64 k] w fun e w' => e = .returned (.int .i64 (k + 3 * l.length : Nat)) ∧ w'.ownsRow B 46 3 (.slice A l.length c) l.length ((mkW k l.length).flatMap encWri) ∧ Sl encWri 3 w' A (mkW k l.length) ∧ w.grownBy w' (Value.slice A l.length c).ownBlock := by
  rcases Go.Joins.ownsRow_forms hown with ⟨he, h0⟩ | ⟨g, cap, he⟩
  · obtain rfl := List.eq_nil_of_length_eq_zero h0
    simp at he
    obtain ⟨rfl, rfl⟩ := he
    refine (markW_none 0 k w).mono ?_
    rintro e w' ⟨rfl, rfl⟩
    exact ⟨rfl, hown, Sl.nil _ _ _ _, World.grownBy.refl _ _⟩
  · simp at he
    obtain ⟨rfl, rfl⟩ := he
    refine (markWH_some B g c l k w hk hn hB hown).mono ?_
    rintro e w' ⟨rfl, ho, hb⟩
    have ho' : w'.ownsRow B 46 3 (.slice (some ⟨g, 0, none⟩) (mkW k l.length).length c) (mkW k l.length).length ((mkW k l.length).flatMap encWri) := by rw [mkW_len]; exact ho
    obtain ⟨A, c', hv, _, _, hR⟩ := Sl.of_own encWri_len ho'
    simp at hv
    obtain ⟨rfl, rfl⟩ := hv
    exact ⟨rfl, ho, hR, hb⟩
set_option maxRecDepth 100000 in
set_option maxHeartbeats 1000000 in
theorem heldW_any (A : Option Addr) (c n k : Nat) (w : World) (hk : k + 3 * n < 4611686018427387904) (hn : n ≤ 1073741824) (hR : Sl encWri 3 w A (mkW k n)) :
    Calls Try.prog 83 #[.slice A n c, .int .i64 k] w fun e w' => e = .returned (.int .i64 (k + 3 * n : Nat)) ∧ Below w.heap.size w w' := by
  go_enter Try.func83, Try.ntmps83
  go_wp2
  go_loopw [1, 5] (fun a b wr => ∃ j : Nat, j ≤ n ∧ a = .int .i64 (k + 3 * j : Nat) ∧ b = .int .i64 j ∧ Below w.heap.size w wr) (fun _ b _ => n - (intOf b).toNat)
  case atStart => exact ⟨0, by omega, rfl, rfl, Below.refl _ _⟩
  case round =>
    obtain ⟨j, hj, rfl, rfl, hb⟩ := hrel
    by_cases hlt : j < n
    · have hlt' : j < (mkW k n).length := by rw [mkW_len]; exact hlt
      obtain ⟨b, o, rfl, hbl, c0, c1, c2⟩ := Sl.at3 (hR.below hb) hlt'
      rw [mkW_get k hlt'] at c0 c1 c2
      unfold mkWOne at c0 c1 c2
      simp only at c0 c1 c2
      clear hR
      go_wp2_with fail
      refine wp_region_below (by kernel_rfl) (by kernel_rfl) ?_
      iterate 8 (refine wpQuiet_step (fun K hK => ?_); go_simp; first | (apply Exists.intro; refine ⟨fun W hW => ?_, hK _ ?_⟩; (first | rfl | (go_at_call 131; exact quiet_call hW (Nat.le_refl _) (markText_any (k + 3 * j) _ (by omega))) | (have e0 := (hW.cell (p := ⟨b, o + j * 3, none⟩) hbl).trans c0; go_simp; rfl)); clear hK K) | (refine hK _ ?_; clear hK K))
      refine wpQuiet_nil ?_
      intro W hW
      have d1 := (hW.cell (p := ⟨b, o + j * 3 + 1, none⟩) hbl).trans c1
      have d2 := (hW.cell (p := ⟨b, o + j * 3 + 2, none⟩) hbl).trans c2
      have hb1 := bthen hb hW
      rw [show ((k + 3 * j + 1 : Nat) : Int) = (k : Int) + 3 * (j : Int) + 1 by omega] at d1
      unfold mkG at d2
      clear hb hW c0 c1 c2 hbl
      by_cases ht : ((k : Int) + 3 * (j : Int) + 1 + 1).tmod 3 = 0
      · have t0 : decide (((k : Int) + 3 * (j : Int) + 1 + 1).tmod 3 = 0) = true := decide_eq_true ht
        have t1 : (((k : Int) + 3 * (j : Int) + 1 + 1) % 3 == 0) = true := by rw [Int.tmod_eq_emod_of_nonneg (by omega)] at ht; simpa using ht
        rw [t0] at d2
        clear ht
        go_wp2
        go_roundw
        case rel => exact ⟨j + 1, by omega, vint (by omega), by go_num, hb1⟩
        case measure => simp [intOf]; omega
      · have t0 : decide (((k : Int) + 3 * (j : Int) + 1 + 1).tmod 3 = 0) = false := decide_eq_false ht
        have t1 : (((k : Int) + 3 * (j : Int) + 1 + 1) % 3 == 0) = false := by rw [Int.tmod_eq_emod_of_nonneg (by omega)] at ht; simpa using ht
        rw [t0] at d2
        clear ht
        go_wp2
        go_roundw
        case rel => exact ⟨j + 1, by omega, vint (by omega), by go_num, hb1⟩
        case measure => simp [intOf]; omega
    · obtain rfl : j = n := by omega
      go_wp2
      go_ret
      exact ⟨rfl, hb⟩
end Go.Proofs.Yteanjfjlmpgnnaa
