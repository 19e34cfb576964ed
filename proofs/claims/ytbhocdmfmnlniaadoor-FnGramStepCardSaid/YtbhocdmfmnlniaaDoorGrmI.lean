/- The two GramStep and the two GramAll. -/
import Derived.Test.YtbhocdmfmnlniaaDoorGrmD
import Derived.Test.YtbhocdmfmnlniaaDoorGrmH
namespace Go.Proofs.YtbhocdmfmnlniaaDoor
open Go.RowKit
theorem idleS_cases (x : Let) : idleS x = 0 ∨ idleS x = 1 ∨ idleS x = 2 ∨ idleS x = 3 := by
  unfold idleS
  rcases rowsS_cases x with h | h | h <;> rw [h]
  · exact .inl rfl
  · exact .inr (.inl rfl)
  · simp only [if_pos]
    split
    · split <;> simp
    · split
      · split <;> simp
      · split
        · split <;> simp
        · split
          · split <;> simp
          · simp
theorem stepG_cases (st : Int) (x : Let) : stepG st x = 0 ∨ stepG st x = 1 ∨ stepG st x = 2 ∨ stepG st x = 3 := by
  unfold stepG
  split
  · split
    · exact idleS_cases x
    · split
      · rcases rowsS_cases x with h | h | h <;> rw [h] <;> simp
      · simp
  · simp
theorem stepG_out {st : Int} (h0 : st ≠ 0) (h1 : st ≠ 1) (x : Let) : stepG st x = 3 := by
  unfold stepG
  rw [if_neg h0, if_neg h1]
  split <;> rfl
set_option maxHeartbeats 1000000 in
theorem specStep_any (st : Int) (x : Let) (w : World) (h1 : x.1.size ≤ maxLen) (h2 : x.2.size ≤ 1048576) :
    Calls Tryd.prog 8 #[.int .i64 st, .agg #[.string x.1, .string x.2]] w fun e w' => e = .returned (.int .i64 (stepG st x)) ∧ Below w.heap.size w w' := by
  obtain ⟨x1, x2⟩ := x
  simp only at h1 h2 ⊢
  have h2' : x2.size ≤ maxLen := by unfold maxLen; omega
  have hb0 := (Below.refl w.heap.size w).alloc (Nat.le_refl _) (.cells #[.string x1, .string x2] 26)
  have HX := Lib.hid (Blk.new w 26 #[.string x1, .string x2])
  by_cases a : st < 0
  · have HG := Lib.hid (show stepG st (x1, x2) = 3 from stepG_out (by omega) (by omega) _)
    have da : decide (st < 0) = true := decide_eq_true a
    clear a
    go_enter Tryd.func8, Tryd.ntmps8
    go_wp2
    go_ret
    exact ⟨ret_int HG.out.symm, hb0⟩
  have da : decide (st < 0) = false := decide_eq_false a
  by_cases b : 3 < st
  · have HG := Lib.hid (show stepG st (x1, x2) = 3 from stepG_out (by omega) (by omega) _)
    have db : decide (3 < st) = true := decide_eq_true b
    clear a b
    go_enter Tryd.func8, Tryd.ntmps8
    go_wp2
    go_ret
    exact ⟨ret_int HG.out.symm, hb0⟩
  have db : decide (3 < st) = false := decide_eq_false b
  have hst : st = 0 ∨ st = 1 ∨ st = 2 ∨ st = 3 := by omega
  cases hl : letB (x1, x2)
  · have HG := Lib.hid (show stepG st (x1, x2) = 3 by unfold stepG; rw [hl]; rfl)
    clear a b hst
    go_enter Tryd.func8, Tryd.ntmps8
    go_wp2_with (go_at_call 19; refine (specOk_any (x1, x2) _ h1 h2').mono ?_; rintro e w1 ⟨rfl, hb1⟩; rw [hl])
    go_ret
    exact ⟨ret_int HG.out.symm, hb0.trans (hb1.mono (by simp))⟩
  · have HG := Lib.hid (show stepG st (x1, x2) = stepS st (x1, x2) by unfold stepG; rw [hl]; rfl)
    have HST := Lib.hid hst
    clear a b hst
    go_enter Tryd.func8, Tryd.ntmps8
    go_wp2_with (first
      | (go_at_call 19; refine (specOk_any (x1, x2) _ h1 h2').mono ?_; rintro e w1 ⟨rfl, hb1⟩; rw [hl]; have hX1 := HX.out.kept hb1; have y0 := hX1.at_ (i := 0) (by simp); have y1 := hX1.at_ (i := 1) (by simp))
      | (go_at_call 20; refine (l9Step_any st (x1, x2) _ h2 HST.out).mono ?_; rintro e w2 ⟨rfl, hb2⟩))
    go_ret
    exact ⟨ret_int HG.out.symm, (hb0.trans (hb1.mono (by simp))).trans (hb2.mono (by have := hb1.size; simp at this; omega))⟩
/-- how it stands behind letters -/
def gramL (l : List Let) : Int := l.foldl stepG 0
theorem gramL_take (l : List Let) (k : Nat) (h : k < l.length) : gramL (l.take (k + 1)) = stepG (gramL (l.take k)) l[k] := by
  unfold gramL; rw [List.take_succ_eq_append_getElem h, List.foldl_append]; rfl
def SmallL (l : List Let) : Prop := l.length ≤ 1048576 ∧ ∀ x ∈ l, x.1.size ≤ 1048576 ∧ x.2.size ≤ 1048576
set_option maxHeartbeats 1000000 in
theorem specGramAll_any (A : Option Addr) (l : List Let) (c : Nat) (w : World) (hl : SmallL l) (hR : Sl encLet 2 w A l) :
    Calls Tryd.prog 12 #[.slice A l.length c] w fun e w' => e = .returned (.int .i64 (gramL l)) ∧ Below w.heap.size w w' := by
  obtain ⟨hn, hx⟩ := hl
  go_enter Tryd.func12, Tryd.ntmps12
  go_wp2
  go_loopw [3, 4] (fun s i wr => ∃ k : Nat, k ≤ l.length ∧ i = .int .i64 k ∧ s = .int .i64 (gramL (l.take k)) ∧ Below w.heap.size w wr) (fun _ i _ => l.length - (intOf i).toNat)
  case atStart => exact ⟨0, by omega, rfl, rfl, Below.refl _ _⟩
  case round =>
    obtain ⟨k, hk, rfl, rfl, hb⟩ := hrel
    by_cases hlt : k < l.length
    · obtain ⟨b, o, rfl, hbl, c0, c1⟩ := Sl.at2 (hR.below hb) hlt
      have HG := Lib.hid (gramL_take l k hlt)
      obtain ⟨hx1, hx2⟩ := hx l[k] (by simp)
      have hx1' : l[k].1.size ≤ maxLen := by unfold maxLen; omega
      generalize l[k] = x at *
      generalize gramL (l.take k) = g at *
      clear hR hx
      go_wp2_with (go_at_call 8; refine (specStep_any g x _ hx1' hx2).mono ?_; rintro e w2 ⟨rfl, hb2⟩)
      go_roundw
      case rel => exact ⟨k + 1, by omega, by go_num, by rw [HG.out], bthen hb hb2⟩
      case measure => simp [intOf]; omega
    · obtain rfl : k = l.length := by omega
      go_wp2
      go_ret
      exact ⟨ret_int (by rw [List.take_length]), hb⟩
set_option maxHeartbeats 1000000 in
theorem implGramAll_any (A : Option Addr) (l : List Let) (c : Nat) (w : World) (hl : SmallL l) (hR : Sl encLet 2 w A l) (hV : Env w) :
    Calls Tryd.prog 14 #[.slice A l.length c] w fun e w' => e = .returned (.int .i64 (gramL l)) ∧ Below w.heap.size w w' := by
  obtain ⟨hn, hx⟩ := hl
  go_enter Tryd.func14, Tryd.ntmps14
  go_wp2
  go_loopw [3, 8] (fun s i wr => ∃ k : Nat, k ≤ l.length ∧ i = .int .i64 k ∧ s = .int .i64 (gramL (l.take k)) ∧ Below w.heap.size w wr) (fun _ i _ => l.length - (intOf i).toNat)
  case atStart => exact ⟨0, by omega, rfl, rfl, Below.refl _ _⟩
  case round =>
    obtain ⟨k, hk, rfl, rfl, hb⟩ := hrel
    by_cases hlt : k < l.length
    · obtain ⟨b, o, rfl, hbl, c0, c1⟩ := Sl.at2 (hR.below hb) hlt
      have HG := Lib.hid (gramL_take l k hlt)
      obtain ⟨hx1, hx2⟩ := hx l[k] (by simp)
      have hx1' : l[k].1.size ≤ maxLen := by unfold maxLen; omega
      generalize l[k] = x at *
      generalize gramL (l.take k) = g at *
      have hb1 := hb.alloc hb.size (.cells #[.string x.1, .string x.2] 26)
      have HV := Lib.hid (hV.below hb1)
      clear hR hx
      go_wp2_with (go_at_call 10; refine (implStep_any g x _ hx1' (by omega) HV.out).mono ?_; rintro e w2 ⟨rfl, hb2⟩)
      go_roundw
      case rel => exact ⟨k + 1, by omega, by go_num, by rw [HG.out], bthen hb1 hb2⟩
      case measure => simp [intOf]; omega
    · obtain rfl : k = l.length := by omega
      go_wp2
      go_ret
      exact ⟨ret_int (by rw [List.take_length]), hb⟩
end Go.Proofs.YtbhocdmfmnlniaaDoor
