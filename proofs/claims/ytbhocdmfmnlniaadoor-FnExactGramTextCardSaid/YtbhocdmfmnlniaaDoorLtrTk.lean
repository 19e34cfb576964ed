/- Plain laws: what is taken is a right letter. -/
import Derived.Test.YtbhocdmfmnlniaaDoorLtrHd
import Derived.Test.YtbhocdmfmnlniaaDoorLtrL
import Derived.Test.YtbhocdmfmnlniaaDoorLtrI
namespace Go.Proofs.YtbhocdmfmnlniaaDoor
open Go.RowKit
theorem measFrom_all (s : ByteArray) : ∀ f i, i + f ≤ s.size → (∀ j, j < i → okAt s j = true) → (measFrom s f i).1 ≠ 0 → (measFrom s f i).2 = false →
    ∀ j, j < (measFrom s f i).1 → okAt s j = true
  | 0, _, _, _, h, _ => absurd rfl h
  | f + 1, i, hi, hok, h, h2 => by
    unfold measFrom at h h2 ⊢
    by_cases h1 : okAt s i = false
    · rw [if_pos h1] at h; exact absurd rfl h
    · rw [if_neg h1] at h h2 ⊢
      have hok' : ∀ j, j < i + 1 → okAt s j = true := fun j hj => by
        by_cases hji : j < i
        · exact hok j hji
        · obtain rfl : j = i := by omega
          simpa using h1
      by_cases h3 : fullB (i + 1) (szAt s (i + 1)) = true
      · rw [if_pos h3] at h h2 ⊢
        exact fun j hj => hok' j hj
      · rw [if_neg h3] at h h2 ⊢
        exact measFrom_all s f (i + 1) (by omega) hok' h h2
theorem take_ok (s : ByteArray) (h : takeC s = 0) : ∀ j, j < takeN s → okAt s j = true := by
  have hm : (meas s).2 = false ∧ (meas s).1 ≠ 0 := by
    unfold takeC at h
    split at h
    · omega
    · rename_i h2
      split at h
      · omega
      · rename_i h1; exact ⟨by simpa using h2, h1⟩
  have hn : takeN s = (meas s).1 := by unfold takeN; rw [if_neg (by simp [hm.1])]
  rw [hn]
  exact measFrom_all s s.size 0 (by omega) (fun j hj => absurd hj (by omega)) hm.2 hm.1
theorem byt_extract (s : ByteArray) (a b j : Nat) (h : j < b - a) (hb : b ≤ s.size) : byt (s.extract a b) j = byt s (a + j) := by
  have hb2 : b ≤ s.data.size := hb
  unfold byt
  rw [ByteArray.data_extract, Array.getD_eq_getD_getElem?, Array.getD_eq_getD_getElem?, Array.getElem?_extract]
  rw [if_pos (by omega)]
theorem take_let (s : ByteArray) (h : takeC s = 0) : letB (takeL s) = true := by
  obtain ⟨h1, h2, h3, h4, h5, h6, h7⟩ := take_head s h
  have hb := takeN_bound s h
  have hok := take_ok s h
  rw [h7]
  have e1 : (s.extract 0 1).size = 1 := by simp; omega
  have e2 : (s.extract 3 (takeN s)).size = takeN s - 3 := by simp; omega
  have hs : sgnB (byt (s.extract 0 1) 0) = true := by
    rw [byt_extract s 0 1 0 (by omega) (by omega)]
    have := hok 0 (by omega)
    rwa [okAt_0] at this
  have hbd : bodyOk (s.extract 3 (takeN s)) = true := bodyOk_yes fun j hj => by
    rw [e2] at hj
    rw [byt_extract s 3 (takeN s) j hj hb.2]
    have := hok (3 + j) (by omega)
    rwa [okAt_body s (3 + j) (by omega)] at this
  unfold letB
  simp [e1, e2, hs, hbd]
  omega
end Go.Proofs.YtbhocdmfmnlniaaDoor
