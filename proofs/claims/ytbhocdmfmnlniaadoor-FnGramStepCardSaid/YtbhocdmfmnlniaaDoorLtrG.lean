/- The reference's LetterTake returns what the program's does: the plain law of 'meas', then the walk. -/
import Derived.Test.YtbhocdmfmnlniaaDoorLtrF
namespace Go.Proofs.YtbhocdmfmnlniaaDoor
open Go.RowKit
theorem szAt_ge (s : ByteArray) (i : Nat) (h : 3 ≤ i) : szAt s i = szAt s 3 := by
  unfold szAt; rw [if_neg (by omega), if_neg (by omega), if_neg (by omega), if_neg (by omega)]
theorem full_no (s : ByteArray) (i : Nat) (h : ¬ (3 ≤ i ∧ (i : Int) = 3 + szAt s 3)) : fullB i (szAt s i) = false := by
  unfold fullB
  by_cases h3 : 3 ≤ i
  · rw [szAt_ge s i h3]; simpa using h
  · simp; omega
theorem full_yes (s : ByteArray) (i : Nat) (h3 : 3 ≤ i) (h : (i : Int) = 3 + szAt s 3) : fullB i (szAt s i) = true := by
  unfold fullB; rw [szAt_ge s i h3]; simp; omega
theorem meas_run (s : ByteArray) : ∀ i, i ≤ s.size → (∀ j, j < i → okAt s j = true) → (∀ j, j < i → ¬ (3 ≤ j + 1 ∧ ((j + 1 : Nat) : Int) = 3 + szAt s 3)) → meas s = measFrom s (s.size - i) i
  | 0, _, _, _ => rfl
  | i + 1, hi, hok, hf => by
    rw [meas_run s i (by omega) (fun j hj => hok j (by omega)) (fun j hj => hf j (by omega))]
    rw [show s.size - i = (s.size - (i + 1)) + 1 by omega]
    show (if okAt s i = false then (0, true) else if fullB (i + 1) (szAt s (i + 1)) = true then (i + 1, false) else measFrom s (s.size - (i + 1)) (i + 1)) = _
    rw [if_neg (by rw [hok i (by omega)]; decide), if_neg (by rw [full_no s (i + 1) (hf i (by omega))]; decide)]
theorem meas_bad (s : ByteArray) (i : Nat) (hi : i < s.size) (hok : ∀ j, j < i → okAt s j = true) (hf : ∀ j, j < i → ¬ (3 ≤ j + 1 ∧ ((j + 1 : Nat) : Int) = 3 + szAt s 3)) (hb : okAt s i = false) : meas s = (0, true) := by
  rw [meas_run s i (by omega) hok hf, show s.size - i = (s.size - (i + 1)) + 1 by omega]
  show (if okAt s i = false then (0, true) else _) = _
  rw [if_pos hb]
theorem meas_wait (s : ByteArray) (hok : ∀ j, j < s.size → okAt s j = true) (hf : ∀ j, j < s.size → ¬ (3 ≤ j + 1 ∧ ((j + 1 : Nat) : Int) = 3 + szAt s 3)) : meas s = (0, false) := by
  rw [meas_run s s.size (Nat.le_refl _) hok hf, Nat.sub_self]; rfl
theorem meas_fine (s : ByteArray) (i : Nat) (hi : i < s.size) (hok : ∀ j, j ≤ i → okAt s j = true) (h3 : 3 ≤ i + 1) (he : ((i + 1 : Nat) : Int) = 3 + szAt s 3) : meas s = (i + 1, false) := by
  rw [meas_run s i (by omega) (fun j hj => hok j (by omega)) (fun j hj h => by omega), show s.size - i = (s.size - (i + 1)) + 1 by omega]
  show (if okAt s i = false then (0, true) else if fullB (i + 1) (szAt s (i + 1)) = true then (i + 1, false) else _) = _
  rw [if_neg (by rw [hok i (Nat.le_refl _)]; decide), if_pos (full_yes s (i + 1) h3 he)]
theorem take_bad {s : ByteArray} (h : meas s = (0, true)) : takeC s = 2 ∧ takeN s = 0 ∧ takeL s = (bEmpty, bEmpty) := by
  have h1 : takeC s = 2 := by simp [takeC, h]
  exact ⟨h1, by simp [takeN, h], by simp [takeL, h1]⟩
theorem take_wait {s : ByteArray} (h : meas s = (0, false)) : takeC s = 1 ∧ takeN s = 0 ∧ takeL s = (bEmpty, bEmpty) := by
  have h1 : takeC s = 1 := by simp [takeC, h]
  exact ⟨h1, by simp [takeN, h], by simp [takeL, h1]⟩
theorem take_fine {s : ByteArray} {n : Nat} (h : meas s = (n, false)) (hn : n ≠ 0) : takeC s = 0 ∧ takeN s = n ∧ takeL s = (s.extract 0 1, s.extract 3 n) := by
  have h1 : takeC s = 0 := by simp [takeC, h, hn]
  have h2 : takeN s = n := by simp [takeN, h]
  exact ⟨h1, h2, by simp [takeL, h1, h2]⟩
theorem okAt_body (s : ByteArray) (i : Nat) (h : 3 ≤ i) : okAt s i = bodB (byt s i) := by
  unfold okAt fitB; rw [if_neg (by omega), if_neg (by omega), if_neg (by omega)]
/-- the head's verdict and the letter's -/
theorem head_bad (s : ByteArray) (h : headC s = 2) : takeC s = 2 ∧ takeN s = 0 ∧ takeL s = (bEmpty, bEmpty) := by
  apply take_bad
  have nf : ∀ i : Nat, i ≤ 2 → ∀ j, j < i → ¬ (3 ≤ j + 1 ∧ ((j + 1 : Nat) : Int) = 3 + szAt s 3) := fun i hi j hj h => by omega
  by_cases h0 : 0 < s.size ∧ okAt s 0 = false
  · exact meas_bad s 0 h0.1 (fun j hj => by omega) (nf 0 (by omega)) h0.2
  · by_cases h1 : 1 < s.size ∧ okAt s 1 = false
    · refine meas_bad s 1 h1.1 (fun j hj => ?_) (nf 1 (by omega)) h1.2
      match j, hj with
      | 0, _ => simpa using fun e => h0 ⟨by omega, e⟩
    · by_cases h2 : 2 < s.size ∧ okAt s 2 = false
      · refine meas_bad s 2 h2.1 (fun j hj => ?_) (nf 2 (by omega)) h2.2
        match j, hj with
        | 0, _ => simpa using fun e => h0 ⟨by omega, e⟩
        | 1, _ => simpa using fun e => h1 ⟨by omega, e⟩
      · unfold headC at h
        rw [if_neg (by rintro (h | h | h) <;> contradiction)] at h
        split at h <;> omega
theorem head_ok (s : ByteArray) (h : headC s ≠ 2) : ∀ j, j < 3 → j < s.size → okAt s j = true := by
  unfold headC at h
  by_cases hc : (0 < s.size ∧ okAt s 0 = false) ∨ (1 < s.size ∧ okAt s 1 = false) ∨ (2 < s.size ∧ okAt s 2 = false)
  · rw [if_pos hc] at h; exact absurd rfl h
  · intro j hj hs
    match j, hj with
    | 0, _ => simpa using fun e => hc (.inl ⟨hs, e⟩)
    | 1, _ => simpa using fun e => hc (.inr (.inl ⟨hs, e⟩))
    | 2, _ => simpa using fun e => hc (.inr (.inr ⟨hs, e⟩))
theorem head_wait (s : ByteArray) (h : headC s = 1) : takeC s = 1 ∧ takeN s = 0 ∧ takeL s = (bEmpty, bEmpty) := by
  have ho := head_ok s (by omega)
  have hs : s.size < 3 := by
    unfold headC at h
    split at h
    · omega
    · split at h <;> omega
  exact take_wait (meas_wait s (fun j hj => ho j (by omega) hj) (fun j hj h => by omega))
theorem head_fine (s : ByteArray) (h : headC s = 0) : 3 ≤ s.size ∧ (∀ j, j < 3 → okAt s j = true) ∧ headN s = szAt s 3 ∧ 0 ≤ szAt s 3 ∧ szAt s 3 ≤ 40 := by
  have ho := head_ok s (by omega)
  have hs : 3 ≤ s.size := by
    unfold headC at h
    split at h
    · omega
    · split at h <;> omega
  have h0 := ho 0 (by omega) (by omega)
  have h1 := ho 1 (by omega) (by omega)
  have h2 := ho 2 (by omega) (by omega)
  refine ⟨hs, fun j hj => ho j hj (by omega), by unfold headN; rw [if_pos ⟨hs, h0, h1, h2⟩], ?_⟩
  rw [szAt_3]
  rw [okAt_1] at h1; rw [okAt_2] at h2
  simp at h1 h2
  have := digB_yes h1.1
  have := digB_yes h2.1
  omega
theorem headC_cases (s : ByteArray) : headC s = 0 ∨ headC s = 1 ∨ headC s = 2 := by
  unfold headC
  split
  · simp
  · split <;> simp
end Go.Proofs.YtbhocdmfmnlniaaDoor
