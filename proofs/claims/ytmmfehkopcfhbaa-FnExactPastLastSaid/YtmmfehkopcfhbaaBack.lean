/- slices.Backward at rows of writes: its function value hands a row's writes to a loop's body, the last first. -/
import Derived.Test.YtmmfehkopcfhbaaPastS
import Derived.Test.YtmmfehkopcfhbaaKp
namespace Go.Proofs.Ytmmfehkopcfhbaa
open Go.RowKit Go.Shelf
attribute [local go_sem] Oper.semAt_some
abbrev argB (x : Wri × Nat) : Array Value := #[.int .i64 x.2, wriA x.1]
set_option maxRecDepth 100000 in
set_option maxHeartbeats 2000000 in
theorem back1_in (n : Nat) (hn : 1 ≤ n) (l Bs N0 c : Nat) (A : Option Addr) (xs : List Wri) (w0 : World) (hlen : xs.length ≤ 1048576) (J Jx : List (Wri × Nat) → World → Prop) (W : World)
    (hY : ∀ pre x W1, J pre W1 → pre.length < xs.length → YieldAt Fence.wide (n - 1) Try.prog l (argB x) W1 fun e W' =>
      (e = .returned (.bool true) ∧ J (pre ++ [x]) W' ∧ Below N0 W1 W') ∨ (e = .returned (.bool false) ∧ Jx (pre ++ [x]) W'))
    (hS : Sl encWri 3 w0 A xs) (hw0 : w0.heap.size ≤ N0) (hbb : Below w0.heap.size w0 W) (hN : N0 ≤ W.heap.size) (hv1 : W.cell? ⟨Bs, 0, none⟩ = some (.slice A xs.length c)) (hBs : Bs < N0) (h0 : J [] W) :
    CallsIn Fence.wide n Try.prog 25 #[.func (.yield l) #[] #[], .pointer (some ⟨Bs, 0, none⟩)] W fun e W' => (∃ v, e = .returned v) ∧
      ((∃ ys, ys = backTo xs 0 ∧ J ys W') ∨ (∃ pre, (∃ k, pre = backTo xs k) ∧ Jx pre W')) := by
  refine callsIn_of_wp Try.func25 rfl trivial ?_ rfl
  simp only [Try.ntmps25, List.size_toArray, List.length_cons, List.length_nil, Nat.reduceAdd, Nat.reduceSub, Array.replicate_succ, Array.replicate_zero, List.push_toArray, List.append_toArray, List.nil_append, List.cons_append]
  gi_wp2
  gi_loopw [3] (fun i wr => ∃ k : Nat, k ≤ xs.length ∧ i = .int .i64 ((k : Int) - 1) ∧ J (backTo xs k) wr ∧ Below N0 W wr)
    (fun i _ => (intOf i + 1).toNat)
  case atStart => exact ⟨xs.length, Nat.le_refl _, rfl, by rw [backTo_top]; exact h0, Below.refl _ _⟩
  case round =>
    obtain ⟨k, hk, rfl, hJs, hnx⟩ := hrel
    have hsl : wr.cell? ⟨Bs, 0, none⟩ = some (.slice A xs.length c) := (hnx.cell (by simpa using hBs)).trans hv1
    have hsz := hnx.size
    rcases Nat.eq_zero_or_pos k with hk0 | hk0
    · subst hk0
      gi_wp2
      go_end0
      exact ⟨⟨_, rfl⟩, .inl ⟨_, rfl, hJs⟩⟩
    · obtain ⟨m, rfl⟩ : ∃ m, k = m + 1 := ⟨k - 1, by omega⟩
      have hlt : m < xs.length := by omega
      obtain ⟨b, o, rfl, hbl, c0, c1, c2⟩ := Sl.at3 (hS.mono (Nat.le_refl _) (hbb.trans (hnx.mono hw0))) hlt
      have HB := Lib.hid (backTo_step xs m hlt)
      have hlb := backTo_len xs (m + 1)
      obtain ⟨fn, tmps, assign, body, hy, hR⟩ := hY _ (xs[m], m) wr hJs (by omega)
      generalize xs[m] = x at *
      dsimp only [argB] at hy
      have e0 : ((m + 1 : Nat) : Int) - 1 = (m : Int) := by omega
      rw [e0]
      gi_wp2
      refine hR.mono ?_
      rintro e W3 (⟨rfl, hJ3, hk3⟩ | ⟨rfl, hJx3⟩)
      · gi_wp2
        go_roundw
        case rel => exact ⟨m, by omega, by go_num, by rw [HB.out]; exact hJ3, hnx.trans hk3⟩
        case measure => simp [intOf]
      · gi_wp2
        refine bodyPost_ret (results_none rfl _ _ _) rfl ?_
        exact ⟨⟨_, rfl⟩, .inr ⟨_, ⟨m, HB.out.symm⟩, hJx3⟩⟩
set_option maxHeartbeats 1000000 in
theorem back_in (n : Nat) (A : Option Addr) (m c : Nat) (w : World) :
    CallsIn Fence.wide n Try.prog 21 #[.slice A m c] w fun e w' => e = .returned (.func (.func 25) #[] #[.pointer (some ⟨w.heap.size, 0, none⟩)]) ∧
      w' = w.alloc (.cells #[.slice A m c] 50) := by
  refine callsIn_of_wp Try.func21 rfl trivial ?_ rfl
  simp only [Try.ntmps21, List.size_toArray, List.length_cons, List.length_nil, Nat.reduceAdd, Nat.reduceSub, Array.replicate_succ, Array.replicate_zero, List.push_toArray, List.append_toArray, List.nil_append, List.cons_append]
  gi_wp2
  go_ret
  exact ⟨rfl, rfl⟩
theorem back_stops (n : Nat) (hn : 1 ≤ n) (Bs c : Nat) (A : Option Addr) (xs : List Wri) (w0 w : World) (hlen : xs.length ≤ 1048576)
    (hS : Sl encWri 3 w0 A xs) (hw0 : w0.heap.size ≤ w.heap.size) (hbb : Below w0.heap.size w0 w) (hv : Blk w Bs 50 #[.slice A xs.length c]) :
    SeqStopsK Fence.wide n Try.prog 25 #[.pointer (some ⟨Bs, 0, none⟩)] argB (Below w.heap.size) (fun ys => ys = backTo xs 0) (fun pre => ∃ k, pre = backTo xs k) xs.length w := fun l J Jx W hW _ _ hY h0 =>
  back1_in n hn l Bs w.heap.size c A xs w0 hlen J Jx W hY hS hw0 (hbb.trans (hW.mono hw0)) hW.size ((hv.kept hW).cell 0) hv.lt h0
end Go.Proofs.Ytmmfehkopcfhbaa
