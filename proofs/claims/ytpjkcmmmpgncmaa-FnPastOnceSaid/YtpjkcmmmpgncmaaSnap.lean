/- The program's snapshot: a function value that hands the versions of a time to a loop's body, one behind the other. -/
import Derived.Test.YtpjkcmmmpgncmaaVerP
import Derived.Test.YtpjkcmmmpgncmaaKp
import Derived.RangeFuncNested
import Derived.RangeFuncBound
import Derived.RangeFuncCalls
import Derived.RangeFuncLeaves
import Derived.RangeFuncWrites
import Derived.RangeFuncBox
import Derived.Shelf.Abstract
import Derived.Shelf.RegionOpen
import Derived.WalkKit
import Derived.OwnWalkIn
import Derived.TacticsInMore
import Derived.LoopNIn
import Derived.LoopIn
namespace Go.Proofs.Ytpjkcmmmpgncmaa
open Go.RowKit Go.Shelf
attribute [local go_sem] Oper.semAt_some
def visL (l : List Ver) (t : Int) : List Ver := l.filter (fun x => visB x t)
theorem visL_yes {l : List Ver} {k : Nat} {t : Int} (h : k < l.length) (hv : visB l[k] t = true) : visL (l.take (k + 1)) t = visL (l.take k) t ++ [l[k]] := by
  unfold visL; rw [List.take_succ_eq_append_getElem h, List.filter_append]; simp [hv]
theorem visL_no {l : List Ver} {k : Nat} {t : Int} (h : k < l.length) (hv : visB l[k] t = false) : visL (l.take (k + 1)) t = visL (l.take k) t := by
  unfold visL; rw [List.take_succ_eq_append_getElem h, List.filter_append]; simp [hv]
theorem visL_le (l : List Ver) (t : Int) : (visL l t).length ≤ l.length := List.length_filter_le _ _
abbrev argV (x : Ver) : Array Value := #[.agg #[.string x.1, .int .i64 x.2.1, .int .i64 x.2.2.1, .int .i64 x.2.2.2]]
set_option maxRecDepth 100000 in
set_option maxHeartbeats 2000000 in
theorem snap1_in (n : Nat) (hn : 1 ≤ n) (l Bv Bt N0 bs c : Nat) (A : Option Addr) (vs : List Ver) (now t : Int) (w0 : World) (hlen : vs.length ≤ 1048576) (J Jx : List Ver → World → Prop) (W : World)
    (hJ : AbidesFrom W.heap.size J)
    (hY : ∀ pre x W1, J pre W1 → pre.length < vs.length → YieldAt Fence.wide (n - 1) Try.prog l (argV x) W1 fun e W' =>
      (e = .returned (.bool true) ∧ J (pre ++ [x]) W' ∧ KpB N0 bs W1 W') ∨ (e = .returned (.bool false) ∧ Jx (pre ++ [x]) W'))
    (hS : Sl encVer 4 w0 A vs) (hw0 : w0.heap.size ≤ bs) (hbs : bs < N0) (hbb : Below w0.heap.size w0 W) (hN : N0 ≤ W.heap.size) (hv0 : W.cell? ⟨Bv, 0, none⟩ = some (.int .i64 now)) (hv1 : W.cell? ⟨Bv, 1, none⟩ = some (.slice A vs.length c)) (ht : W.cell? ⟨Bt, 0, none⟩ = some (.int .i64 t)) (htN : Bt < N0 ∧ Bt ≠ bs) (h0 : J [] W) :
    CallsIn Fence.wide n Try.prog 116 #[.func (.yield l) #[] #[], .pointer (some ⟨Bv, 0, none⟩), .pointer (some ⟨Bt, 0, none⟩)] W fun e W' => (∃ v, e = .returned v) ∧
      ((∃ ys, ys = visL vs t ∧ J ys W') ∨ (∃ pre, True ∧ Jx pre W')) := by
  refine callsIn_of_wp Try.func116 rfl trivial ?_ rfl
  simp only [Try.ntmps116, List.size_toArray, List.length_cons, List.length_nil, Nat.reduceAdd, Nat.reduceSub, Array.replicate_succ, Array.replicate_zero, List.push_toArray, List.append_toArray, List.nil_append, List.cons_append]
  gi_wp2
  gi_loopw [9] (fun i wr => ∃ k : Nat, k ≤ vs.length ∧ i = .int .i64 k ∧ J (visL (vs.take k) t) wr ∧ KpB N0 bs W wr)
    (fun i _ => vs.length - (intOf i).toNat)
  case atStart => exact ⟨0, Nat.zero_le _, rfl, h0, KpB.refl _ _ _⟩
  case round =>
    obtain ⟨k, hk, rfl, hJs, hnx⟩ := hrel
    have ht1 : wr.cell? ⟨Bt, 0, none⟩ = some (.int .i64 t) := (hnx.cell htN.1 htN.2).trans ht
    have hsz := hnx.1
    by_cases hlt : k < vs.length
    · obtain ⟨b, o, rfl, hbl, c0, c1, c2, c3⟩ := Sl.at4 (hnx.sl hS hw0 hbs hbb) hlt
      by_cases hv : visB vs[k] t = true
      · have HV := Lib.hid (visL_yes hlt hv)
        have hle := visL_le (vs.take k) t
        have hle2 : (vs.take k).length ≤ k := List.length_take_le _ _
        have HX := Lib.hid hv
        generalize vs[k] = x at *
        clear hv
        have hba := (Below.refl wr.heap.size wr).alloc (Nat.le_refl _) (.cells #[.string x.1, .int .i64 x.2.1, .int .i64 x.2.2.1, .int .i64 x.2.2.2] 88)
        have ht2 := (hba.cell (p := ⟨Bt, 0, none⟩) (by simp; omega)).trans ht1
        have hX := Blk.new wr 88 #[.string x.1, .int .i64 x.2.1, .int .i64 x.2.2.1, .int .i64 x.2.2.2]
        gi_wp2_with fail
        refine ⟨trivial, callsIn_wide.2 ((visible_any x t _).mono ?_)⟩
        rintro e w1 ⟨rfl, hb1⟩
        have hba1 := hba.trans (hb1.mono (by simp))
        have hX1 := hX.kept hb1
        have c0 : w1.cell? ⟨wr.heap.size, 0, none⟩ = some (.string x.1) := hX1.cell 0
        have c1 : w1.cell? ⟨wr.heap.size, 1, none⟩ = some (.int .i64 x.2.1) := hX1.cell 1
        have c2 : w1.cell? ⟨wr.heap.size, 2, none⟩ = some (.int .i64 x.2.2.1) := hX1.cell 2
        have c3 : w1.cell? ⟨wr.heap.size, 3, none⟩ = some (.int .i64 x.2.2.2) := hX1.cell 3
        have hJ1 := abides hJ hJs hba1
        obtain ⟨fn, tmps, assign, body, hy, hR⟩ := hY _ x w1 hJ1 (by omega)
        have hn1 := hnx.trans (KpB.of_below (bs := bs) hba1 (by omega))
        rw [HX.out]
        clear hX hX1 ht2 hba hba1 hJ1 hJs hb1
        gi_wp2
        refine hR.mono ?_
        rintro e W3 (⟨rfl, hJ3, hk3⟩ | ⟨rfl, hJx3⟩)
        · gi_wp2
          go_roundw
          case rel => exact ⟨k + 1, by omega, by go_num, by rw [HV.out]; exact hJ3, hn1.trans hk3⟩
          case measure => simp [intOf]; omega
        · gi_wp2
          refine bodyPost_ret (results_none rfl _ _ _) rfl ?_
          exact ⟨⟨_, rfl⟩, .inr ⟨_, trivial, hJx3⟩⟩
      · have hv' : visB vs[k] t = false := by simpa using hv
        have HV := Lib.hid (visL_no hlt hv')
        have HX := Lib.hid hv'
        generalize vs[k] = x at *
        clear hv hv'
        have hba := (Below.refl wr.heap.size wr).alloc (Nat.le_refl _) (.cells #[.string x.1, .int .i64 x.2.1, .int .i64 x.2.2.1, .int .i64 x.2.2.2] 88)
        have ht2 := (hba.cell (p := ⟨Bt, 0, none⟩) (by simp; omega)).trans ht1
        gi_wp2_with fail
        refine ⟨trivial, callsIn_wide.2 ((visible_any x t _).mono ?_)⟩
        rintro e w1 ⟨rfl, hb1⟩
        have hba1 := hba.trans (hb1.mono (by simp))
        have hJ1 := abides hJ hJs hba1
        have hn1 := hnx.trans (KpB.of_below (bs := bs) hba1 (by omega))
        rw [HX.out]
        clear ht2 hba hba1 hJs hb1
        gi_wp2
        refine ⟨fun _ h => (by cases h), ?_⟩
        gi_wp2
        go_roundw
        case rel => exact ⟨k + 1, by omega, by go_num, by rw [HV.out]; exact hJ1, hn1⟩
        case measure => simp [intOf]; omega
    · obtain rfl : k = vs.length := by omega
      rw [List.take_length] at hJs
      gi_wp2
      go_end0
      exact ⟨⟨_, rfl⟩, .inl ⟨_, rfl, hJs⟩⟩
set_option maxHeartbeats 1000000 in
theorem snap_in (n : Nat) (A : Option Addr) (m c : Nat) (now t : Int) (w : World) :
    CallsIn Fence.wide n Try.prog 70 #[.agg #[.int .i64 now, .slice A m c], .int .i64 t] w fun e w' => e = .returned (.func (.func 116) #[] #[.pointer (some ⟨w.heap.size, 0, none⟩), .pointer (some ⟨w.heap.size + 1, 0, none⟩)]) ∧
      w' = (w.alloc (.cells #[.int .i64 now, .slice A m c] 32)).alloc (.cells #[.int .i64 t] 3) := by
  refine callsIn_of_wp Try.func70 rfl trivial ?_ rfl
  simp only [Try.ntmps70, List.size_toArray, List.length_cons, List.length_nil, Nat.reduceAdd, Nat.reduceSub, Array.replicate_succ, Array.replicate_zero, List.push_toArray, List.append_toArray, List.nil_append, List.cons_append]
  gi_wp2
  go_ret
  exact ⟨rfl, rfl⟩
/-- the snapshot's function value hands on the versions of the time, in order; block bs is the body's own -/
theorem snap_stops (n : Nat) (hn : 1 ≤ n) (Bv Bt bs c : Nat) (A : Option Addr) (vs : List Ver) (now t : Int) (w0 w : World) (hlen : vs.length ≤ 1048576)
    (hS : Sl encVer 4 w0 A vs) (hw0 : w0.heap.size ≤ bs) (hbs : bs < w.heap.size) (hbb : Below w0.heap.size w0 w) (hv : Blk w Bv 32 #[.int .i64 now, .slice A vs.length c]) (ht : Blk w Bt 3 #[.int .i64 t]) (htN : Bt ≠ bs) :
    SeqStopsK Fence.wide n Try.prog 116 #[.pointer (some ⟨Bv, 0, none⟩), .pointer (some ⟨Bt, 0, none⟩)] argV (KpB w.heap.size bs) (fun ys => ys = visL vs t) (fun _ => True) vs.length w := fun l J Jx W hW hJ _ hY h0 =>
  snap1_in n hn l Bv Bt w.heap.size bs c A vs now t w0 hlen J Jx W hJ hY hS hw0 hbs (hbb.trans (hW.mono (by have := hbb.size; omega))) hW.size ((hv.kept hW).cell 0) ((hv.kept hW).cell 1) ((ht.kept hW).cell 0) ⟨ht.lt, htN⟩ h0
end Go.Proofs.Ytpjkcmmmpgncmaa
