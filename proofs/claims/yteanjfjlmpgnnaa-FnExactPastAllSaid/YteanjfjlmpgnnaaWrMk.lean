/- Marking rows of writes: what they hold afterwards is not told. -/
import Derived.Test.YteanjfjlmpgnnaaMark
import Derived.Test.YteanjfjlmpgnnaaWriD
import Derived.Test.YteanjfjlmpgnnaaVrMk
import Derived.Lib.SmallJoins
import Derived.Laws.OwnMore
namespace Go.Proofs.Yteanjfjlmpgnnaa
open Go.RowKit
theorem ownW_has {w : World} {B g c n i s : Nat} {T : TypeId} {xs : List Value} (h : w.ownsRow B T s (.slice (some ⟨g, 0, none⟩) n c) n xs) (hi : i < n * s) : ∃ u, w.cell? ⟨g, i, none⟩ = some u := by
  rw [h.cellAt i hi]; exact ⟨_, List.getElem?_eq_getElem (by rw [h.1]; exact hi)⟩
set_option maxRecDepth 100000 in
set_option maxHeartbeats 1000000 in
theorem markW_some (B g c n : Nat) (xs : List Value) (k : Nat) (w : World) (hk : k + 3 * n < 4611686018427387904) (hn : n ≤ 1073741824) (hB : B ≤ w.heap.size)
    (hown : w.ownsRow B 46 3 (.slice (some ⟨g, 0, none⟩) n c) n xs) :
    Calls Try.prog 82 #[.slice (some ⟨g, 0, none⟩) n c, .int .i64 k] w fun e w' => e = .returned (.int .i64 (k + 3 * n : Nat)) ∧ (∃ ys, w'.ownsRow B 46 3 (.slice (some ⟨g, 0, none⟩) n c) n ys) ∧ w.grownBy w' (some g) := by
  have hBg := (hown.lt g rfl).1
  go_enter Try.func82, Try.ntmps82
  go_wp2
  go_loopw [1, 5] (fun a b wr => ∃ (j : Nat) (ys : List Value), j ≤ n ∧ a = .int .i64 (k + 3 * j : Nat) ∧ b = .int .i64 j ∧ wr.ownsRow B 46 3 (.slice (some ⟨g, 0, none⟩) n c) n ys ∧ w.grownBy wr (some g)) (fun _ b _ => n - (intOf b).toNat)
  case atStart => exact ⟨0, xs, by omega, rfl, rfl, hown, World.grownBy.refl _ _⟩
  case round =>
    obtain ⟨j, ys, hj, rfl, rfl, ho, hb⟩ := hrel
    by_cases hlt : j < n
    · go_wp2_with fail
      refine (markText_any (k + 3 * j) wr (by omega)).mono ?_
      rintro e w1 ⟨rfl, hb1⟩
      have ho1 := own_kept ho hb1
      obtain ⟨u0, hc0⟩ := ownW_has ho1 (i := j * 3) (by omega)
      have hf0 := ho1.frozenAt (j * 3)
      have ho2 := (ho1.stored (j * 3) (.string (mt (k + 3 * j)))).1
      obtain ⟨u1, hc1⟩ := ownW_has ho2 (i := j * 3 + 1) (by omega)
      have hf1 := ho2.frozenAt (j * 3 + 1)
      have ho3 := (ho2.stored (j * 3 + 1) (.int .i64 ((k : Int) + 3 * (j : Int) + 1))).1
      obtain ⟨u2, hc2⟩ := ownW_has ho3 (i := j * 3 + 2) (by omega)
      have hf2 := ho3.frozenAt (j * 3 + 2)
      have ho4 := fun b : Bool => (ho3.stored (j * 3 + 2) (.bool b)).1
      have hb2 := fun b : Bool => gtrans (gtrans (gtrans (gtrans hb (gbelow hb1)) (ho1.stored (j * 3) (.string (mt (k + 3 * j)))).2) (ho2.stored (j * 3 + 1) (.int .i64 ((k : Int) + 3 * (j : Int) + 1))).2) (ho3.stored (j * 3 + 2) (.bool b)).2
      have HO := Lib.hid ho4
      have HB := Lib.hid hb2
      clear ho1 ho2 ho3 ho4 hb2
      go_wp2
      go_roundw
      case rel => exact ⟨j + 1, _, by omega, vint (by omega), by go_num, HO.out _, HB.out _⟩
      case measure => simp [intOf]; omega
    · obtain rfl : j = n := by omega
      go_wp2
      go_ret
      exact ⟨rfl, ⟨_, ho⟩, hb⟩
set_option maxRecDepth 100000 in
theorem markW_none (c k : Nat) (w : World) :
    Calls Try.prog 82 #[.slice none 0 c, .int .i64 k] w fun e w' => e = .returned (.int .i64 k) ∧ w' = w := by
  go_enter Try.func82, Try.ntmps82
  go_wp2
  go_loopw [1, 5] (fun a b wr => a = .int .i64 k ∧ b = .int .i64 0 ∧ wr = w) (fun _ _ _ => 0)
  case atStart => exact ⟨rfl, rfl, rfl⟩
  case round =>
    obtain ⟨rfl, rfl, rfl⟩ := hrel
    go_wp2
    go_ret
    exact ⟨rfl, rfl⟩
theorem markW_own (B : Nat) (A : Option Addr) (c n : Nat) (xs : List Value) (k : Nat) (w : World) (hk : k + 3 * n < 4611686018427387904) (hn : n ≤ 1073741824) (hB : B ≤ w.heap.size)
    (hown : w.ownsRow B 46 3 (.slice A n c) n xs) :
    Calls Try.prog 82 #[.slice A n c, .int .i64 k] w fun e w' => e = .returned (.int .i64 (k + 3 * n : Nat)) ∧ (∃ ys, w'.ownsRow B 46 3 (.slice A n c) n ys) ∧ w.grownBy w' (Value.slice A n c).ownBlock := by
  rcases Go.Joins.ownsRow_forms hown with ⟨he, h0⟩ | ⟨g, cap, he⟩
  · subst h0
    simp at he
    obtain ⟨rfl, rfl⟩ := he
    refine (markW_none 0 k w).mono ?_
    rintro e w' ⟨rfl, rfl⟩
    exact ⟨rfl, ⟨xs, hown⟩, World.grownBy.refl _ _⟩
  · simp at he
    obtain ⟨rfl, rfl⟩ := he
    exact markW_some B g c n xs k w hk hn hB hown
theorem markW_any (B : Nat) (A : Option Addr) (c n : Nat) (xs : List Value) (k : Nat) (w : World) (hk : k + 3 * n < 4611686018427387904) (hn : n ≤ 1073741824) (hB : B ≤ w.heap.size)
    (hown : w.ownsRow B 46 3 (.slice A n c) n xs) :
    Calls Try.prog 82 #[.slice A n c, .int .i64 k] w fun e w' => e = .returned (.int .i64 (k + 3 * n : Nat)) ∧ w.grownBy w' (Value.slice A n c).ownBlock :=
  (markW_own B A c n xs k w hk hn hB hown).mono (fun _ _ h => ⟨h.1, h.2.2⟩)
end Go.Proofs.Yteanjfjlmpgnnaa
