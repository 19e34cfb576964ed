/- The program's VersLast at any store. -/
import Derived.Test.YtfmpohhaimgnfaaPlainV
import Derived.Test.YtfmpohhaimgnfaaSame
namespace Go.Proofs.Ytfmpohhaimgnfaa
open Go.RowKit
set_option maxRecDepth 100000 in
set_option maxHeartbeats 2000000 in
theorem implLast_good (A : Option Addr) (l : List Ver) (c : Nat) (now : Int) (key : ByteArray) (w : World) (hf : FitsV l) (hn : l.length ≤ 1048576) (hS : Sl encVer 4 w A l) (hv : versB now l = true) :
    Calls Try.prog 28 #[.agg #[.int .i64 now, .slice A l.length c], .string key] w fun e w' => e = .returned (.int .i64 (lastV key l)) ∧ Below w.heap.size w w' := by
  have hb0 := (Below.refl w.heap.size w).alloc (Nat.le_refl _) (.cells #[.int .i64 now, .slice A l.length c] 25)
  have HV := Lib.hid (implVersOk_any A l c now _ hf hn (hS.below hb0))
  rw [hv] at HV
  have hB0 := Blk.new w 25 #[.int .i64 now, .slice A l.length c]
  have HSA := Lib.hid (hS.below hb0)
  clear hS hv
  go_enter Try.func28, Try.ntmps28
  go_wp2_with fail
  refine HV.out.mono ?_
  rintro e w1 ⟨rfl, hb1⟩
  have hb := bthen hb0 hb1
  have hB1 := hB0.kept hb1
  have v0 : w1.cell? ⟨w.heap.size, 0, none⟩ = some (.int .i64 now) := hB1.cell 0
  have v1 : w1.cell? ⟨w.heap.size, 1, none⟩ = some (.slice A l.length c) := hB1.cell 1
  have HS := Lib.hid (HSA.out.below hb1)
  clear HSA HV hB0 hb1 hb0 hB1
  go_wp2
  go_loopg [5, 14] l.length (fun kx s5 s14 wr => ∃ k : Nat, k ≤ l.length ∧ kx = l.length - k ∧ s5 = .int .i64 (lastV key (l.take k)) ∧ s14 = .int .i64 k ∧ Below w1.heap.size w1 wr)
  case atStart => exact ⟨0, Nat.zero_le _, rfl, rfl, rfl, Below.refl _ _⟩
  case round =>
    obtain ⟨k, hk, hg, rfl, rfl, hbr⟩ := hrel
    by_cases hlt : k < l.length
    · have HT := Lib.hid (lastV_take (K := key) hlt)
      obtain ⟨b, o, rfl, hbl, c0, c1, c2, c3⟩ := Sl.at4 (HS.out.below hbr) hlt
      generalize l[k] = x at *
      generalize lastV key (l.take k) = m at *
      obtain ⟨xk, xn, xf, xt⟩ := x
      simp only at c0 c1 c2 c3
      have hki : (k : Int) < (l.length : Int) := by omega
      have hki0 : (0 : Int) ≤ (k : Int) := by omega
      by_cases he : xk = key
      · have HM := Lib.hid (show stepL key m (xk, xn, xf, xt) = max (max m xf) xt from if_pos he)
        rw [HM.out] at HT
        go_wp2
        all_goals
          have hb' := bthen hbr ((Below.refl wr.heap.size wr).alloc (Nat.le_refl _) (.cells #[.string key, .int .i64 xn, .int .i64 xf, .int .i64 xt] 57))
          go_roundg (l.length - (k + 1))
          case measure => omega
          case rel =>
            refine ⟨k + 1, by omega, by omega, ?_, by go_num, hb'⟩
            have h2 := HT.out
            first
              | (rename_i h; split at h <;> exact vint (by omega))
              | (rename_i h h1; split at h <;> exact vint (by omega))
              | exact vint (by omega)
              | (trace_state; fail)
      · have HM := Lib.hid (show stepL key m (xk, xn, xf, xt) = m from if_neg he)
        rw [HM.out] at HT
        have d0 : (xk.toList == key.toList) = false := by rw [beq_eq_false_iff_ne]; exact fun h => he ((bytes_eq_iff _ _).1 h)
        have hb' := bthen hbr ((Below.refl wr.heap.size wr).alloc (Nat.le_refl _) (.cells #[.string xk, .int .i64 xn, .int .i64 xf, .int .i64 xt] 57))
        go_wp2
        go_roundg (l.length - (k + 1))
        case measure => omega
        case rel => exact ⟨k + 1, by omega, by omega, vint HT.out.symm, by go_num, hb'⟩
    · obtain rfl : k = l.length := by omega
      rw [List.take_length]
      go_wp2
      go_ret
      exact ⟨rfl, bthen hb hbr⟩
theorem implLast_any (A : Option Addr) (l : List Ver) (c : Nat) (now : Int) (key : ByteArray) (w : World) (hf : FitsV l) (hn : l.length ≤ 1048576) (hS : Sl encVer 4 w A l) :
    Calls Try.prog 28 #[.agg #[.int .i64 now, .slice A l.length c], .string key] w fun e w' => e = .returned (.int .i64 (if versB now l = true then lastV key l else 0)) ∧ Below w.heap.size w w' := by
  cases hv : versB now l
  · simp only [Bool.false_eq_true, if_false]
    exact implLast_bad A l c now key w hf hn hS hv
  · simp only [if_true]
    exact implLast_good A l c now key w hf hn hS hv
end Go.Proofs.Ytfmpohhaimgnfaa
