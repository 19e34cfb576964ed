/- Plain laws: what the head of a letter tells. -/
import Derived.Test.YtbhocdmfmnlniaaDoorLtrI
namespace Go.Proofs.YtbhocdmfmnlniaaDoor
open Go.RowKit
theorem measFrom_told (s : ByteArray) : ∀ f i, i + f ≤ s.size → (∀ j, j < i → okAt s j = true) → (measFrom s f i).1 ≠ 0 → (measFrom s f i).2 = false →
    3 ≤ (measFrom s f i).1 ∧ ((measFrom s f i).1 : Int) = 3 + szAt s 3 ∧ (∀ j, j < 3 → okAt s j = true)
  | 0, _, _, _, h, _ => absurd rfl h
  | f + 1, i, hi, hok, h, h2 => by
    unfold measFrom at h h2 ⊢
    by_cases h1 : okAt s i = false
    · rw [if_pos h1] at h; exact absurd rfl h
    · rw [if_neg h1] at h h2 ⊢
      have hok' : ∀ j, j < i + 1 → okAt s j = true := fun j hj => by
        by_cases hji : j < i
        · exact hok j hji
        · obtain rfl : j = i := by omega
          simpa using h1
      by_cases h3 : fullB (i + 1) (szAt s (i + 1)) = true
      · rw [if_pos h3] at h h2 ⊢
        unfold fullB at h3
        simp at h3
        have e := szAt_ge s (i + 1) (by omega)
        refine ⟨by simp only; omega, by simp only; omega, fun j hj => hok' j (by omega)⟩
      · rw [if_neg h3] at h h2 ⊢
        exact measFrom_told s f (i + 1) (by omega) hok' h h2
theorem take_head (s : ByteArray) (h : takeC s = 0) : 3 ≤ s.size ∧ 3 ≤ takeN s ∧ takeN s ≤ 43 ∧ (48 ≤ byt s 1 ∧ byt s 1 ≤ 57) ∧ (48 ≤ byt s 2 ∧ byt s 2 ≤ 57) ∧ (byt s 1 - 48) * 10 + (byt s 2 - 48) = (takeN s : Int) - 3 ∧ takeL s = (s.extract 0 1, s.extract 3 (takeN s)) := by
  have hb := takeN_bound s h
  have hm : (meas s).2 = false ∧ (meas s).1 ≠ 0 := by
    unfold takeC at h
    split at h
    · omega
    · rename_i h2
      split at h
      · omega
      · rename_i h1; exact ⟨by simpa using h2, h1⟩
  have hn : takeN s = (meas s).1 := by unfold takeN; rw [if_neg (by simp [hm.1])]
  obtain ⟨h3, h4, h5⟩ := measFrom_told s s.size 0 (by omega) (fun j hj => absurd hj (by omega)) hm.2 hm.1
  have h4' : (takeN s : Int) = 3 + szAt s 3 := by rw [hn]; exact h4
  have o1 := h5 1 (by omega)
  have o2 := h5 2 (by omega)
  rw [okAt_1] at o1
  rw [okAt_2] at o2
  simp only [Bool.and_eq_true, decide_eq_true_eq] at o1 o2
  have d1 := digB_yes o1.1
  have d2 := digB_yes o2.1
  have e := szAt_3 s
  exact ⟨by omega, by omega, by omega, d1, d2, by omega, by unfold takeL; rw [if_pos h]⟩
theorem ifp {c : Prop} [Decidable c] {a b : Prop} (h : c) (ha : a) : if c then a else b := by rw [if_pos h]; exact ha
end Go.Proofs.YtbhocdmfmnlniaaDoor
