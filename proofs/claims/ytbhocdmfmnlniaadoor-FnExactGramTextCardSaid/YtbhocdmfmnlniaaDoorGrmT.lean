/- The two GramText. -/
import Derived.Test.YtbhocdmfmnlniaaDoorGrmI
import Derived.Test.YtbhocdmfmnlniaaDoorLtrTk
import Derived.Test.YtbhocdmfmnlniaaDoorLtrI
namespace Go.Proofs.YtbhocdmfmnlniaaDoor
open Go.RowKit
theorem allF_len : ∀ (f : Nat) (s : ByteArray), (allF f s).1.length ≤ f
  | 0, _ => by simp [allF]
  | f + 1, s => by
    have := allF_len f (s.extract (takeN s) s.size)
    rw [allF]; split
    · simp
    · split
      · simp
      · simp; omega
theorem allL_len (s : ByteArray) : (allL s).length ≤ s.size := allF_len s.size s
theorem allF_let : ∀ (f : Nat) (s : ByteArray), ∀ x ∈ (allF f s).1, letB x = true
  | 0, _, x, h => by simp [allF] at h
  | f + 1, s, x, h => by
    rw [allF] at h
    split at h
    · simp at h
    · split at h
      · simp at h
      · rename_i h1 h2
        simp only [List.mem_cons] at h
        rcases h with rfl | h
        · exact take_let s (by omega)
        · exact allF_let f _ x h
theorem letB_small {x : Let} (h : letB x = true) : x.1.size ≤ 1048576 ∧ x.2.size ≤ 1048576 := by
  unfold letB at h; simp at h; omega
theorem allL_small {s : ByteArray} (hs : s.size ≤ 1048576) : SmallL (allL s) :=
  ⟨by have := allL_len s; omega, fun x hx => letB_small (allF_let s.size s x hx)⟩
/-- how it stands behind bytes, from a state on -/
def gramF (st : Int) (t : ByteArray) : Int := if allC t ≠ 0 then 3 else (allL t).foldl stepG st
theorem gramF_nil {st : Int} {t : ByteArray} (h : t.size = 0) : gramF st t = st := by
  have := all_nil h
  unfold gramF allC allL; rw [this]; rfl
theorem gramF_stop {st : Int} {t : ByteArray} (h : 0 < t.size) (hc : takeC t ≠ 0) : gramF st t = 3 := by
  have := all_stop h hc
  unfold gramF allC; rw [this]; rw [if_pos hc]
theorem gramF_step {st : Int} {t : ByteArray} (h : 0 < t.size) (hc : takeC t = 0) : gramF st t = gramF (stepG st (takeL t)) (t.extract (takeN t) t.size) := by
  have := all_step h hc
  unfold gramF
  have e1 : allC t = allC (t.extract (takeN t) t.size) := by unfold allC at this ⊢; rw [this]
  have e2 : allL t = takeL t :: allL (t.extract (takeN t) t.size) := by unfold allL at this ⊢; rw [this]
  rw [e1, e2]; rfl
theorem stepG_let {st : Int} {x : Let} (h : letB x = true) : stepG st x = stepS st x := by unfold stepG; rw [h]; rfl
set_option maxHeartbeats 1000000 in
theorem implText_any (s : ByteArray) (a : Addr) (w : World) (hs : s.size ≤ 1048576) (hV : Env w) (h0 : 1 < w.heap.size) (hE : w.cell? ⟨1, 0, none⟩ = some (.iface 133 (.pointer (some a)))) :
    Calls Tryd.prog 18 #[.string s] w fun e w' => e = .returned (.int .i64 (gramF 0 s)) ∧ Below w.heap.size w w' := by
  have HT := Lib.hid (takeAll_any s a w (by omega) h0 hE)
  have HS := Lib.hid (allL_small hs)
  by_cases hc : allC s = 0
  · have HG := Lib.hid (show gramF 0 s = gramL (allL s) by unfold gramF; rw [if_neg (by omega)]; rfl)
    have hc' : (((allC s : Nat) : Int) != 0) = false := by simp [hc]
    clear hE h0 hc
    go_enter Tryd.func18, Tryd.ntmps18
    go_wp2_with fail
    refine HT.out.mono ?_
    rintro e w1 ⟨v, rfl, ho, hb1⟩
    obtain ⟨A, c, rfl, _, _, hR⟩ := Sl.of_own encLet_len ho
    have HV := Lib.hid (hV.below hb1)
    generalize allC s = cc at *
    go_wp2_with (go_at_call 14; refine (implGramAll_any A (allL s) c _ HS.out hR HV.out).mono ?_; rintro e w2 ⟨rfl, hb2⟩)
    go_ret
    exact ⟨ret_int HG.out.symm, bthen hb1 hb2⟩
  · have HG := Lib.hid (show gramF 0 s = 3 by unfold gramF; rw [if_pos hc])
    have hc' : (((allC s : Nat) : Int) != 0) = true := by simp; exact hc
    clear hE h0 hc
    go_enter Tryd.func18, Tryd.ntmps18
    go_wp2_with fail
    refine HT.out.mono ?_
    rintro e w1 ⟨v, rfl, ho, hb1⟩
    generalize allC s = cc at *
    go_wp2
    go_ret
    exact ⟨ret_int HG.out.symm, hb1⟩
set_option maxHeartbeats 1000000 in
theorem specText_all (s : ByteArray) (w : World) (hs : s.size ≤ 1048576) :
    Calls Tryd.prog 17 #[.string s] w fun e w' => e = .returned (.int .i64 (gramF 0 s)) ∧ Below w.heap.size w w' := by
  go_enter Tryd.func17, Tryd.ntmps17
  go_wp2
  go_loopw [0, 3] (fun r v wr => ∃ (t : ByteArray) (st : Int), r = .string t ∧ v = .int .i64 st ∧ (st = 0 ∨ st = 1 ∨ st = 2 ∨ st = 3) ∧ t.size ≤ s.size ∧ gramF st t = gramF 0 s ∧ Below w.heap.size w wr) (fun r _ _ => strLen r)
  case atStart => exact ⟨s, 0, rfl, rfl, .inl rfl, Nat.le_refl _, rfl, Below.refl _ _⟩
  case round =>
    obtain ⟨t, st, rfl, rfl, hst, hts, hg, hb⟩ := hrel
    have HST := Lib.hid hst
    have HG := Lib.hid hg
    clear hst hg
    by_cases ht : 0 < t.size
    · have hd : decide (0 < (t.size : Int)) = true := decide_eq_true (by omega)
      have HT := Lib.hid (specTake_any t wr (by omega))
      by_cases hc : takeC t = 0
      · have hn := takeN_bound t hc
        have HL := Lib.hid (take_let t hc)
        have HN := Lib.hid (gramF_step (st := st) ht hc)
        have hx2 := (letB_small HL.out).2
        have hcb : (((takeC t : Nat) : Int) != 0) = false := by simp [hc]
        have hnn : ((takeN t : Nat) : Int) ≤ t.size := by omega
        have HSZ := Lib.hid (extract_size t (takeN t))
        clear hc
        go_wp2_with fail
        refine HT.out.mono ?_
        rintro e w1 ⟨rfl, hb1⟩
        have hb01 := bthen hb hb1
        generalize takeC t = cc at *
        generalize hx : takeL t = x at *
        generalize takeN t = n at *
        have hb02 := hb01.alloc hb01.size (.cells #[.string x.1, .string x.2] 26)
        go_wp2_with (go_at_call 20; refine (l9Step_any st x _ hx2 HST.out).mono ?_; rintro e w2 ⟨rfl, hb2⟩)
        go_roundw
        case rel =>
          have hsz := HSZ.out
          refine ⟨_, _, rfl, rfl, ?_, by omega, ?_, bthen hb02 hb2⟩
          · rw [← stepG_let HL.out]; exact stepG_cases st x
          · rw [← stepG_let HL.out, ← HN.out, HG.out]
        case measure =>
          have hsz := HSZ.out
          simp [strLen]; omega
      · have HN := Lib.hid (gramF_stop (st := st) ht hc)
        have hcb : (((takeC t : Nat) : Int) != 0) = true := by simp; exact hc
        clear hc
        go_wp2_with fail
        refine HT.out.mono ?_
        rintro e w1 ⟨rfl, hb1⟩
        have hb01 := bthen hb hb1
        generalize takeC t = cc at *
        generalize takeL t = x at *
        generalize takeN t = n at *
        have hb02 := hb01.alloc hb01.size (.cells #[.string x.1, .string x.2] 26)
        go_wp2_with fail
        go_ret
        exact ⟨ret_int (by rw [← HG.out, HN.out]), hb02⟩
    · have HN := Lib.hid (gramF_nil (st := st) (t := t) (by omega))
      have ht0 : t.size = 0 := by omega
      clear ht
      go_wp2
      go_ret
      exact ⟨ret_int (by rw [← HG.out, HN.out]), hb⟩
end Go.Proofs.YtbhocdmfmnlniaaDoor
