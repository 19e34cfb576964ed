/- The program's LetterTake: what it returns, as a function of the bytes. -/
import Derived.Test.YtbhocdmfmnlniaaDoorLtrD
import Derived.Test.YtbhocdmfmnlniaaDoorLetD
import Derived.RegionTactic
import Derived.ChangeAlike
namespace Go.Proofs.YtbhocdmfmnlniaaDoor
open Go.RowKit
abbrev bEmpty : ByteArray := ⟨#[]⟩
/-- the first letter of s, how many bytes it takes, the code -/
def takeN (s : ByteArray) : Nat := if (meas s).2 = true then 0 else (meas s).1
def takeC (s : ByteArray) : Nat := if (meas s).2 = true then 2 else if (meas s).1 = 0 then 1 else 0
def takeL (s : ByteArray) : Let := if takeC s = 0 then (s.extract 0 1, s.extract 3 (takeN s)) else (bEmpty, bEmpty)
theorem measFrom_bound (s : ByteArray) : ∀ f i, i + f ≤ s.size → (measFrom s f i).1 ≠ 0 → 3 ≤ (measFrom s f i).1 ∧ (measFrom s f i).1 ≤ s.size
  | 0, _, _, h => absurd rfl h
  | f + 1, i, hi, h => by
    unfold measFrom at h ⊢
    by_cases h1 : okAt s i = false
    · rw [if_pos h1] at h; exact absurd rfl h
    · rw [if_neg h1] at h ⊢
      by_cases h2 : fullB (i + 1) (szAt s (i + 1)) = true
      · rw [if_pos h2]
        unfold fullB at h2; simp at h2
        exact ⟨by simpa using h2.1, by simp; omega⟩
      · rw [if_neg h2] at h ⊢
        exact measFrom_bound s f (i + 1) (by omega) h
theorem meas_bound (s : ByteArray) (h : (meas s).1 ≠ 0) : 3 ≤ (meas s).1 ∧ (meas s).1 ≤ s.size := measFrom_bound s s.size 0 (by omega) h
def TakePost (s : ByteArray) (w : World) (e : Ending) (w' : World) : Prop :=
  e = .returned (.tuple #[.agg #[.string (takeL s).1, .string (takeL s).2], .int .i64 (takeN s), .int .i64 (takeC s)]) ∧ Below w.heap.size w w'
theorem take_mem {w w1 : World} {E : Value} (h0 : 1 < w.heap.size) (hE : w.cell? ⟨1, 0, none⟩ = some E) {o : Array Value} {t : TypeId} (hb : Below (w.alloc (.cells o t)).heap.size (w.alloc (.cells o t)) w1) :
    Blk w1 w.heap.size t o ∧ w1.cell? ⟨1, 0, none⟩ = some E ∧ Below w.heap.size w w1 :=
  ⟨(Blk.new w t o).below hb (by simp), (hb.cell (p := ⟨1, 0, none⟩) (by rw [World.size_alloc]; exact Nat.lt_succ_of_lt h0)).trans ((World.cell?_alloc_lt w _ ⟨1, 0, none⟩ (by simpa using h0)).trans hE), ((Below.refl _ _).alloc (Nat.le_refl _) _).trans (hb.mono (by simp))⟩
set_option maxHeartbeats 800000 in
theorem implTake_any (s : ByteArray) (a : Addr) (w : World) (hs : s.size ≤ 4611686018427387904) (h0 : 1 < w.heap.size) (hE : w.cell? ⟨1, 0, none⟩ = some (.iface 133 (.pointer (some a)))) :
    Calls Tryd.prog 43 #[.string s] w (TakePost s w) := by
  by_cases h2 : (meas s).2 = true
  · have hC : takeC s = 2 := by simp [takeC, h2]
    have hN : takeN s = 0 := by simp [takeN, h2]
    have hL : takeL s = (bEmpty, bEmpty) := by simp [takeL, hC]
    have H2 := Lib.hid (show errV (.iface 133 (.pointer (some a))) (meas s).2 = .iface 133 (.pointer (some a)) by simp [errV, h2])
    have HL := Lib.hid (⟨hC, hN, hL⟩ : _ ∧ _ ∧ _)
    clear h2 hC hN hL
    go_enter Tryd.func43, Tryd.ntmps43
    go_wp2_with fail
    refine (measured_any s _ _ hs (by rw [World.size_alloc]; exact Nat.lt_succ_of_lt h0) (by rw [World.cell?_alloc_lt _ _ _ (by simpa using h0)]; exact hE) ⟨_, _, rfl⟩).mono ?_
    rintro e w1 ⟨rfl, hb1⟩
    rw [H2.out]
    obtain ⟨hB, hE1, hbw⟩ := take_mem h0 hE hb1
    have z0 := hB.frozen 0
    have z1 := hB.frozen 1
    have y0 : w1.cell? ⟨w.heap.size, 0, none⟩ = _ := hB.cell 0
    have y1 : w1.cell? ⟨w.heap.size, 1, none⟩ = _ := hB.cell 1
    have HB := Lib.hid hB
    clear hb1 hB
    go_wp2_with fail
    refine (is_same a _).mono ?_
    rintro e w2 ⟨rfl, rfl⟩
    go_wp2
    obtain ⟨q0, q1⟩ := HB.out.two (.string bEmpty) (.string bEmpty)
    refine bodyPost_ret (v := .tuple #[.agg #[.string bEmpty, .string bEmpty], .int .i64 0, .int .i64 2]) (by simp [results, Tryd.results43, go_sem, q0, q1]) rfl ⟨by rw [HL.out.1, HL.out.2.1, HL.out.2.2]; rfl, ?_⟩
    exact (hbw.setCell (by simp) _).setCell (by simp) _
  have h2' : (meas s).2 = false := by simpa using h2
  by_cases h1 : (meas s).1 = 0
  · have hC : takeC s = 1 := by simp [takeC, h2', h1]
    have hN : takeN s = 0 := by simp [takeN, h2', h1]
    have hL : takeL s = (bEmpty, bEmpty) := by simp [takeL, hC]
    have H2 := Lib.hid (show errV (.iface 133 (.pointer (some a))) (meas s).2 = .nilIface by simp [errV, h2'])
    have HL := Lib.hid (⟨hC, hN, hL⟩ : _ ∧ _ ∧ _)
    have H1 := Lib.hid h1
    clear h2 h2' hC hN hL h1
    go_enter Tryd.func43, Tryd.ntmps43
    go_wp2_with fail
    refine (measured_any s _ _ hs (by rw [World.size_alloc]; exact Nat.lt_succ_of_lt h0) (by rw [World.cell?_alloc_lt _ _ _ (by simpa using h0)]; exact hE) ⟨_, _, rfl⟩).mono ?_
    rintro e w1 ⟨rfl, hb1⟩
    rw [H2.out]
    obtain ⟨hB, hE1, hbw⟩ := take_mem h0 hE hb1
    have z0 := hB.frozen 0
    have z1 := hB.frozen 1
    have y0 : w1.cell? ⟨w.heap.size, 0, none⟩ = _ := hB.cell 0
    have y1 : w1.cell? ⟨w.heap.size, 1, none⟩ = _ := hB.cell 1
    have HB := Lib.hid hB
    clear hb1 hB
    go_wp2_with fail
    refine (is_nil a _).mono ?_
    rintro e w2 ⟨rfl, rfl⟩
    rw [H1.out]
    go_wp2
    obtain ⟨q0, q1⟩ := HB.out.two (.string bEmpty) (.string bEmpty)
    refine bodyPost_ret (v := .tuple #[.agg #[.string bEmpty, .string bEmpty], .int .i64 0, .int .i64 1]) (by simp [results, Tryd.results43, go_sem, q0, q1]) rfl ⟨by rw [HL.out.1, HL.out.2.1, HL.out.2.2]; rfl, ?_⟩
    exact (hbw.setCell (by simp) _).setCell (by simp) _
  · have hC : takeC s = 0 := by simp [takeC, h2', h1]
    have hN : takeN s = (meas s).1 := by simp [takeN, h2']
    have hL : takeL s = (s.extract 0 1, s.extract 3 (meas s).1) := by simp [takeL, hC, hN]
    obtain ⟨hn3, hns⟩ := meas_bound s h1
    have H2 := Lib.hid (show errV (.iface 133 (.pointer (some a))) (meas s).2 = .nilIface by simp [errV, h2'])
    have HL := Lib.hid (⟨hC, hN, hL⟩ : _ ∧ _ ∧ _)
    have he : ((((meas s).1 : Int) == 0) = false) := by simpa using h1
    clear h2 h2' hC hN hL h1
    go_enter Tryd.func43, Tryd.ntmps43
    go_wp2_with fail
    refine (measured_any s _ _ hs (by rw [World.size_alloc]; exact Nat.lt_succ_of_lt h0) (by rw [World.cell?_alloc_lt _ _ _ (by simpa using h0)]; exact hE) ⟨_, _, rfl⟩).mono ?_
    rintro e w1 ⟨rfl, hb1⟩
    rw [H2.out]
    obtain ⟨hB, hE1, hbw⟩ := take_mem h0 hE hb1
    have z0 := hB.frozen 0
    have z1 := hB.frozen 1
    have y0 : w1.cell? ⟨w.heap.size, 0, none⟩ = _ := hB.cell 0
    have y1 : w1.cell? ⟨w.heap.size, 1, none⟩ = _ := hB.cell 1
    have HB := Lib.hid hB
    clear hb1 hB
    go_wp2_with fail
    refine (is_nil a _).mono ?_
    rintro e w2 ⟨rfl, rfl⟩
    generalize (meas s).1 = n at *
    go_wp2_with fail
    go_region
    go_wp2
    obtain ⟨q0, q1⟩ := HB.out.two (.string (s.extract 0 1)) (.string (s.extract 3 n))
    refine bodyPost_ret (v := .tuple #[.agg #[.string (s.extract 0 1), .string (s.extract 3 n)], .int .i64 n, .int .i64 0]) (by simp [results, Tryd.results43, go_sem, q0, q1]) rfl ⟨by rw [HL.out.1, HL.out.2.1, HL.out.2.2]; rfl, ?_⟩
    exact ((hbw.setCell (by simp) _).setCell (by simp) _).drew
end Go.Proofs.YtbhocdmfmnlniaaDoor
