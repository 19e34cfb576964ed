/- The program's LetterTake: measured, errors.Is at the one sentinel, the letter itself. -/
import Derived.Test.YtbhocdmfmnlniaaDoorLtrB
import Derived.LaidEql
import Derived.Stop.Asserts
import Derived.RowKitTokens
namespace Go.Proofs.YtbhocdmfmnlniaaDoor
open Go.RowKit
open Go.Extern
/-- byte i of s, 0 behind its end -/
def byt (s : ByteArray) (i : Nat) : Int := ((s.data.getD i 0).toNat : Int)
theorem byt_lo (s : ByteArray) (i : Nat) : 0 ≤ byt s i := by unfold byt; omega
theorem byt_hi (s : ByteArray) (i : Nat) : byt s i ≤ 255 := by unfold byt; have := (s.data.getD i 0).toNat_lt; omega
theorem byt_eq (s : ByteArray) (i : Nat) (h : i < s.size) : ((s[i].toNat : Nat) : Int) = byt s i := by
  unfold byt; rw [Array.getD_eq_getD_getElem?, Array.getElem?_eq_getElem (by simpa using h)]; rfl
/-- what the digits have told when i bytes have come -/
def szAt (s : ByteArray) (i : Nat) : Int := if i < 2 then 0 else if i = 2 then (byt s 1 - 48) * 10 else (byt s 1 - 48) * 10 + (byt s 2 - 48)
def okAt (s : ByteArray) (i : Nat) : Bool := fitB i (szAt s i) (byt s i)
theorem szAt_step (s : ByteArray) (i : Nat) : nsz i (szAt s i) (byt s i) = szAt s (i + 1) := by
  unfold nsz szAt
  match i with
  | 0 => simp
  | 1 => simp
  | 2 => simp
  | n + 3 => rw [if_neg (by omega), if_neg (by omega), if_neg (by omega), if_neg (by omega), if_neg (by omega), if_neg (by omega)]
/-- measured, from byte i on -/
def measFrom (s : ByteArray) : Nat → Nat → Nat × Bool
  | 0, _ => (0, false)
  | f + 1, i => if okAt s i = false then (0, true) else if fullB (i + 1) (szAt s (i + 1)) = true then (i + 1, false) else measFrom s f (i + 1)
def errV (E : Value) (b : Bool) : Value := if b = true then E else .nilIface
def meas (s : ByteArray) : Nat × Bool := measFrom s s.size 0
theorem szAt_lo (s : ByteArray) (i : Nat) (h : ∀ j, j < i → okAt s j = true) : 0 ≤ szAt s i ∧ szAt s i ≤ 1000 := by
  unfold szAt
  by_cases h2 : i < 2
  · rw [if_pos h2]; omega
  · rw [if_neg h2]
    have h1 := h 1 (by omega)
    unfold okAt fitB at h1
    simp at h1
    obtain ⟨a, b⟩ := digB_yes h1.1
    by_cases h3 : i = 2
    · rw [if_pos h3]; omega
    · rw [if_neg h3]
      have h2 := h 2 (by omega)
      unfold okAt fitB at h2
      simp at h2
      obtain ⟨a', b'⟩ := digB_yes h2.1
      omega
set_option maxHeartbeats 800000 in
theorem measured_any (s : ByteArray) (E : Value) (w : World) (hs : s.size ≤ 4611686018427387904) (h0 : 1 < w.heap.size) (hE : w.cell? ⟨1, 0, none⟩ = some E) (hEn : ∃ t v, E = .iface t v) :
    Calls Tryd.prog 52 #[.string s] w fun e w' => e = .returned (.tuple #[.int .i64 (meas s).1, errV E (meas s).2]) ∧ Below w.heap.size w w' := by
  go_enter Tryd.func52, Tryd.ntmps52
  go_wp2
  go_loopw [5] (fun i wr => ∃ k : Nat, k ≤ s.size ∧ i = .int .i64 k ∧ Blk wr w.heap.size 80 (dcd k (szAt s k)) ∧ (∀ j, j < k → okAt s j = true) ∧ meas s = measFrom s (s.size - k) k ∧ Below w.heap.size w wr) (fun i _ => s.size - (intOf i).toNat)
  case atStart => exact ⟨0, by omega, rfl, by simpa [dcd, szAt] using Blk.new _ _ _, fun j h => absurd h (by omega), rfl, (Below.refl _ _).alloc (Nat.le_refl _) _⟩
  case round =>
    obtain ⟨k, hk, rfl, hB, hok, hms, hb⟩ := hrel
    obtain ⟨hz0, hz1⟩ := szAt_lo s k hok
    have HK := Lib.hid hok
    have HM := Lib.hid hms
    clear hok hms
    obtain ⟨Et, Ev, rfl⟩ := hEn
    by_cases hlt : k < s.size
    · have hst := szAt_step s k
      have hstep : measFrom s (s.size - k) k = if okAt s k = false then (0, true) else if fullB (k + 1) (szAt s (k + 1)) = true then (k + 1, false) else measFrom s (s.size - (k + 1)) (k + 1) := by
        rw [show s.size - k = (s.size - (k + 1)) + 1 by omega]; rfl
      have HS := Lib.hid hst
      have HT := Lib.hid hstep
      clear hst hstep
      have hgl := hB.lt
      go_wp2_with fail
      rw [byt_eq s k hlt]
      by_cases hf : okAt s k = true
      · have HF := Lib.hid hf
        clear hf
        refine (feed_yes w.heap.size k (szAt s k) (byt s k) wr (byt_lo _ _) (byt_hi _ _) hz0 hz1 (by omega) hB HF.out).mono ?_
        rintro e w1 ⟨rfl, hB1, hb1⟩
        rw [HS.out] at hB1
        have hb01 := hb.trans (hb1 w.heap.size (Nat.le_refl _))
        have hok1 : ∀ j, j < k + 1 → okAt s j = true := fun j hj => by
          by_cases h : j < k
          · exact HK.out j h
          · obtain rfl : j = k := by omega
            exact HF.out
        obtain ⟨hy0, hy1⟩ := szAt_lo s (k + 1) hok1
        have HK1 := Lib.hid hok1
        clear hok1 hB hb1 hb
        go_wp2_with fail
        refine (done_any w.heap.size (k + 1) (szAt s (k + 1)) w1 hy0 hy1 (by omega) hB1).mono ?_
        rintro e w2 ⟨rfl, nd, rfl⟩
        by_cases hd : fullB (k + 1) (szAt s (k + 1)) = true
        · have HD := Lib.hid hd
          rw [hd]
          have hc0 : w1.cell? ⟨w.heap.size, 0, none⟩ = some (.int .i64 ((k + 1 : Nat) : Int)) := hB1.cell 0
          clear hd
          go_wp2
          go_ret2
          refine ⟨?_, hb01.trans (below_drewN _ _ _)⟩
          rw [HM.out, HT.out, HF.out, HD.out]; simp [errV]
        · have hd' : fullB (k + 1) (szAt s (k + 1)) = false := by simpa using hd
          have HD := Lib.hid hd'
          rw [hd']
          clear hd hd'
          go_wp2
          go_roundw
          case rel => exact ⟨k + 1, by omega, by go_num, hB1, HK1.out, by rw [HM.out, HT.out, HF.out, HD.out]; simp, hb01.trans (below_drewN _ _ _)⟩
          case measure => simp [intOf]; omega
      · have hf' : okAt s k = false := by simpa using hf
        have HF := Lib.hid hf'
        clear hf hf'
        refine (feed_no w.heap.size k (szAt s k) (byt s k) (.iface Et Ev) wr (byt_lo _ _) (byt_hi _ _) hz0 hz1 ((hb.cell h0).trans hE) hB HF.out).mono ?_
        rintro e w1 ⟨rfl, hb1⟩
        go_wp2
        go_ret2
        refine ⟨?_, hb.trans (hb1 _ (Nat.le_refl _))⟩
        rw [HM.out, HT.out, HF.out]; simp [errV]
    · obtain rfl : k = s.size := by omega
      have HT := Lib.hid (show measFrom s (s.size - s.size) s.size = (0, false) by rw [Nat.sub_self]; rfl)
      go_wp2
      go_ret2
      refine ⟨?_, hb⟩
      rw [HM.out, HT.out]; simp [errV]
end Go.Proofs.YtbhocdmfmnlniaaDoor
