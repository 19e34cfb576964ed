/- Taking all letters: the program's takeAll and LetterAll, the reference's LetterAll. -/
import Derived.Test.YtbhocdmfmnlniaaDoorLtrH
import Derived.Test.YtbhocdmfmnlniaaDoorLibB
namespace Go.Proofs.YtbhocdmfmnlniaaDoor
open Go.RowKit
theorem takeN_bound (s : ByteArray) (h : takeC s = 0) : 3 ≤ takeN s ∧ takeN s ≤ s.size := by
  unfold takeC at h
  split at h
  · omega
  · rename_i h2
    split at h
    · omega
    · rename_i h1
      have := meas_bound s h1
      unfold takeN; rw [if_neg h2]; exact this
/-- all letters of s: these, what is left, the code ('f': a bound on how many) -/
def allF : Nat → ByteArray → List Let × ByteArray × Nat
  | 0, _ => ([], bEmpty, 0)
  | f + 1, s => if s.size = 0 then ([], bEmpty, 0) else if takeC s ≠ 0 then ([], s, takeC s) else
    (takeL s :: (allF f (s.extract (takeN s) s.size)).1, (allF f (s.extract (takeN s) s.size)).2)
theorem extract_size (s : ByteArray) (n : Nat) : (s.extract n s.size).size = s.size - n := by simp
theorem allF_stop {f : Nat} {s : ByteArray} (h : 0 < s.size) (hc : takeC s ≠ 0) : allF (f + 1) s = ([], s, takeC s) := by
  unfold allF; rw [if_neg (by omega), if_pos hc]
theorem allF_step {f : Nat} {s : ByteArray} (h : 0 < s.size) (hc : takeC s = 0) : allF (f + 1) s = (takeL s :: (allF f (s.extract (takeN s) s.size)).1, (allF f (s.extract (takeN s) s.size)).2) := by
  rw [allF]; rw [if_neg (by omega), if_neg (by omega)]
theorem allF_none {f : Nat} {s : ByteArray} (h : s.size = 0) : allF f s = ([], bEmpty, 0) := by
  cases f with
  | zero => rfl
  | succ f => rw [allF, if_pos h]
theorem allF_same : ∀ (n f g : Nat) (s : ByteArray), s.size ≤ n → s.size ≤ f → s.size ≤ g → allF f s = allF g s
  | 0, f, g, s, h, _, _ => by rw [allF_none (by omega), allF_none (by omega)]
  | n + 1, f, g, s, h, hf, hg => by
    rcases Nat.eq_zero_or_pos s.size with h0 | h0
    · rw [allF_none h0, allF_none h0]
    · obtain ⟨f, rfl⟩ : ∃ m, f = m + 1 := ⟨f - 1, by omega⟩
      obtain ⟨g, rfl⟩ : ∃ m, g = m + 1 := ⟨g - 1, by omega⟩
      by_cases hc : takeC s = 0
      · have hb := takeN_bound s hc
        have hsz := extract_size s (takeN s)
        rw [allF_step h0 hc, allF_step h0 hc, allF_same n f g _ (by omega) (by omega) (by omega)]
      · rw [allF_stop h0 hc, allF_stop h0 hc]
theorem allF_fuel (f : Nat) (s : ByteArray) (h : s.size ≤ f) : allF f s = allF s.size s := allF_same s.size f s.size s (Nat.le_refl _) h (Nat.le_refl _)
def allL (s : ByteArray) : List Let := (allF s.size s).1
def allR (s : ByteArray) : ByteArray := (allF s.size s).2.1
def allC (s : ByteArray) : Nat := (allF s.size s).2.2
theorem all_nil {s : ByteArray} (h : s.size = 0) : allF s.size s = ([], bEmpty, 0) := allF_none h
theorem all_stop {s : ByteArray} (h : 0 < s.size) (hc : takeC s ≠ 0) : allF s.size s = ([], s, takeC s) := by
  rw [← allF_fuel (s.size + 1) s (by omega)]; exact allF_stop h hc
theorem all_step {s : ByteArray} (h : 0 < s.size) (hc : takeC s = 0) :
    allF s.size s = (takeL s :: allL (s.extract (takeN s) s.size), allR (s.extract (takeN s) s.size), allC (s.extract (takeN s) s.size)) := by
  have hb := takeN_bound s hc
  have hsz := extract_size s (takeN s)
  rw [← allF_fuel (s.size + 1) s (by omega), allF_step h hc, allF_fuel s.size _ (by omega)]; rfl
theorem size_pos_of {s : ByteArray} (h : (!s.toList.isEmpty) = true) : 0 < s.size := by
  rcases Nat.eq_zero_or_pos s.size with h0 | h0
  · have : s.toList = [] := by rw [ByteArray.toList_eq]; exact List.eq_nil_of_length_eq_zero (by simpa using h0)
    rw [this] at h; simp at h
  · exact h0
theorem size_zero_of {s : ByteArray} (h : (!s.toList.isEmpty) = false) : s.size = 0 := by
  have : s.toList = [] := by simpa using h
  rw [ByteArray.toList_eq] at this
  have h2 : s.data.toList.length = 0 := by rw [this]; rfl
  simpa using h2
def AllPost (s : ByteArray) (w : World) (e : Ending) (w' : World) : Prop :=
  ∃ v, e = .returned (.tuple #[v, .string (allR s), .int .i64 (allC s)]) ∧ w'.ownsRow w.heap.size 26 2 v (allL s).length ((allL s).flatMap encLet) ∧ Below w.heap.size w w'
theorem infoLet : (Tryd.prog.info? 26).map (fun i => (i.zero, i.size, i.bytes)) = some (some (.agg #[.string ⟨#[]⟩, .string ⟨#[]⟩]), 2, 32) := by kernel_rfl
set_option maxHeartbeats 1000000 in
theorem takeAll_any (s : ByteArray) (a : Addr) (w : World) (hs : s.size ≤ 1073741824) (h0 : 1 < w.heap.size) (hE : w.cell? ⟨1, 0, none⟩ = some (.iface 133 (.pointer (some a)))) :
    Calls Tryd.prog 28 #[.string s] w (AllPost s w) := by
  obtain ⟨i0, hi, hz0, hz1, hz2⟩ := info_parts infoLet
  have HI := Lib.hid (⟨hi, hz0, hz1, hz2⟩ : _ ∧ _ ∧ _ ∧ _)
  clear hi hz0 hz1 hz2
  go_enter Tryd.func28, Tryd.ntmps28
  go_wp2
  go_loopw [0, 5] (fun r v wr => ∃ (t : ByteArray) (l : List Let), r = .string t ∧ t.size + l.length ≤ s.size ∧ allF s.size s = (l ++ allL t, allR t, allC t) ∧ wr.ownsRow w.heap.size 26 2 v l.length (l.flatMap encLet) ∧ Below w.heap.size w wr) (fun r _ _ => strLen r)
  case atStart => exact ⟨s, [], rfl, by simp, rfl, World.ownsRow_nil _ _ _ _, Below.refl _ _⟩
  case round =>
    obtain ⟨t, l, rfl, hsz, hal, hown, hb⟩ := hrel
    have HA := Lib.hid hal
    clear hal
    have hE' := (hb.cell (p := ⟨1, 0, none⟩) h0).trans hE
    have h0' : 1 < wr.heap.size := Nat.lt_of_lt_of_le h0 hb.size
    go_wp2_with fail
    · have ht := size_pos_of (s := t) (by assumption)
      refine (implTake_any t a wr (by omega) h0' hE').mono ?_
      rintro e w1 ⟨rfl, hb1⟩
      by_cases hc : takeC t = 0
      · have hbd := takeN_bound t hc
        have HS := Lib.hid (all_step ht hc)
        have hown1 := ((own_kept hown hb1).alloc (.cells #[.string (takeL t).1, .string (takeL t).2] 26)).alloc (.cells #[.string (takeL t).1, .string (takeL t).2] 26)
        have hnew := new_cells (w1.alloc (.cells #[.string (takeL t).1, .string (takeL t).2] 26)) [.string (takeL t).1, .string (takeL t).2] 26
        rw [World.size_alloc] at hnew
        have hll : l.length ≤ 1073741824 := by omega
        have hbs := hb1.size
        have hbs2 := hb.size
        generalize hx : takeL t = x at *
        have HX := Lib.hid hx
        clear hx
        rw [hc]
        have hc' : (takeN t : Int) ≤ t.size := by omega
        clear hc
        go_wp2_with (at_builtin; refine wpList_append_own _ rfl (.tmp 22) (.tmp 24) 32 rfl w.heap.size 26 i0 _ 2 32 Tryd.underlying32 HI.out.1 HI.out.2.1 HI.out.2.2.1 HI.out.2.2.2 rfl (by decide) u5 l.length (l.flatMap encLet) rfl hown1 ⟨w1.heap.size + 1, 0, none⟩ 1 1 [.string x.1, .string x.2] rfl rfl hnew (by simp [Value.oneCell']) (by unfold maxLen; omega) (by omega) (by simp; omega) ?_; intro v' w2 hown2 hgrow _)
        have hb2 := (((hb.trans (hb1.mono hbs2)).alloc (by omega) (.cells #[.string x.1, .string x.2] 26)).alloc (by simp; omega) (.cells #[.string x.1, .string x.2] 26)).grown hgrow (by simp; omega) (fun j hj => (hown.lt j hj).1)
        go_roundw
        case rel =>
          refine ⟨_, l ++ [x], rfl, by simp; omega, ?_, by simpa [List.flatMap_append, encLet] using hown2, hb2⟩
          have h1 := HS.out
          rw [HA.out]
          show (l ++ (allF t.size t).1, (allF t.size t).2.1, (allF t.size t).2.2) = _
          rw [h1]; simp
        case measure => simp [strLen]; omega
      · have HS := Lib.hid (all_stop ht hc)
        have hc' : (((takeC t : Nat) : Int) != 0) = true := by simpa using hc
        clear hc
        go_wp2
        go_ret3
        refine ⟨u5, ?_, ?_, (hb.trans (hb1.mono hb.size)).alloc (by have := hb.size; have := hb1.size; omega) _⟩
        · have h1 := HA.out
          have e1 : allL t = [] := by unfold allL; rw [HS.out]
          have e2 : allR t = t := by unfold allR; rw [HS.out]
          have e3 : allC t = takeC t := by unfold allC; rw [HS.out]
          have r1 : allR s = t := by unfold allR; rw [h1]; exact e2
          have r2 : allC s = takeC t := by unfold allC; rw [h1]; exact e3
          rw [r1, r2]; rfl
        · have h1 := HA.out
          have e1 : allL t = [] := by unfold allL; rw [HS.out]
          have r0 : allL s = l := by show (allF s.size s).1 = l; rw [h1, e1]; simp
          rw [r0]
          exact (own_kept hown hb1).alloc _
    · have ht := size_zero_of (s := t) (by assumption)
      have HS := Lib.hid (all_nil ht)
      go_wp2
      go_ret3
      refine ⟨u5, ?_, ?_, hb⟩
      · have h1 := HA.out
        have e2 : allR t = bEmpty := by unfold allR; rw [HS.out]
        have e3 : allC t = 0 := by unfold allC; rw [HS.out]
        have r1 : allR s = bEmpty := by unfold allR; rw [h1]; exact e2
        have r2 : allC s = 0 := by unfold allC; rw [h1]; exact e3
        rw [r1, r2]; rfl
      · have h1 := HA.out
        have e1 : allL t = [] := by unfold allL; rw [HS.out]
        have r0 : allL s = l := by show (allF s.size s).1 = l; rw [h1, e1]; simp
        rw [r0]
        exact hown

/-- LetterAll: at most 400 bytes -/
def allPost2 (s : ByteArray) (w : World) (e : Ending) (w' : World) : Prop :=
  if s.size ≤ 400 then AllPost s w e w' else ∃ v, e = .returned (.tuple #[v, .string bEmpty, .int .i64 2]) ∧ w'.ownsRow w.heap.size 26 2 v 0 [] ∧ Below w.heap.size w w'
end Go.Proofs.YtbhocdmfmnlniaaDoor
