/- Plain laws: the letters that are taken have just the bytes ahead of what is left. -/
import Derived.Test.YtannpeedfakhkaaDoorLtrHd
import Derived.Test.YtannpeedfakhkaaDoorLtrU
namespace Go.Proofs.YtannpeedfakhkaaDoor
open Go.RowKit
theorem measFrom_all (s : ByteArray) : ∀ f i, i + f ≤ s.size → (∀ j, j < i → okAt s j = true) → (measFrom s f i).1 ≠ 0 → (measFrom s f i).2 = false →
    ∀ j, j < (measFrom s f i).1 → okAt s j = true
  | 0, _, _, _, h, _ => absurd rfl h
  | f + 1, i, hi, hok, h, h2 => by
    unfold measFrom at h h2 ⊢
    by_cases h1 : okAt s i = false
    · rw [if_pos h1] at h; exact absurd rfl h
    · rw [if_neg h1] at h h2 ⊢
      have hok' : ∀ j, j < i + 1 → okAt s j = true := fun j hj => by
        by_cases hji : j < i
        · exact hok j hji
        · obtain rfl : j = i := by omega
          simpa using h1
      by_cases h3 : fullB (i + 1) (szAt s (i + 1)) = true
      · rw [if_pos h3] at h h2 ⊢
        exact fun j hj => hok' j hj
      · rw [if_neg h3] at h h2 ⊢
        exact measFrom_all s f (i + 1) (by omega) hok' h h2
theorem take_ok (s : ByteArray) (h : takeC s = 0) : ∀ j, j < takeN s → okAt s j = true := by
  have hm : (meas s).2 = false ∧ (meas s).1 ≠ 0 := by
    unfold takeC at h
    split at h
    · omega
    · rename_i h2
      split at h
      · omega
      · rename_i h1; exact ⟨by simpa using h2, h1⟩
  have hn : takeN s = (meas s).1 := by unfold takeN; rw [if_neg (by simp [hm.1])]
  rw [hn]
  exact measFrom_all s s.size 0 (by omega) (fun j hj => absurd hj (by omega)) hm.2 hm.1
theorem byt_extract (s : ByteArray) (a b j : Nat) (h : j < b - a) (hb : b ≤ s.size) : byt (s.extract a b) j = byt s (a + j) := by
  have hb2 : b ≤ s.data.size := hb
  unfold byt
  rw [ByteArray.data_extract, Array.getD_eq_getD_getElem?, Array.getD_eq_getD_getElem?, Array.getElem?_extract]
  rw [if_pos (by omega)]
theorem take_let (s : ByteArray) (h : takeC s = 0) : letB (takeL s) = true := by
  obtain ⟨h1, h2, h3, h4, h5, h6, h7⟩ := take_head s h
  have hb := takeN_bound s h
  have hok := take_ok s h
  rw [h7]
  have e1 : (s.extract 0 1).size = 1 := by simp; omega
  have e2 : (s.extract 3 (takeN s)).size = takeN s - 3 := by simp; omega
  have hs : sgnB (byt (s.extract 0 1) 0) = true := by
    rw [byt_extract s 0 1 0 (by omega) (by omega)]
    have := hok 0 (by omega)
    rwa [okAt_0] at this
  have hbd : bodyOk (s.extract 3 (takeN s)) = true := bodyOk_yes fun j hj => by
    rw [e2] at hj
    rw [byt_extract s 3 (takeN s) j hj hb.2]
    have := hok (3 + j) (by omega)
    rwa [okAt_body s (3 + j) (by omega)] at this
  unfold letB
  simp [e1, e2, hs, hbd]
  omega
theorem bytes_ext {a b : ByteArray} (h : a.size = b.size) (h2 : ∀ j, j < a.size → byt a j = byt b j) : a = b := by
  apply ByteArray.ext
  apply Array.ext
  · exact h
  · intro j h3 h4
    have := h2 j h3
    rw [← byt_eq a j h3, ← byt_eq b j h4] at this
    exact UInt8.toNat_inj.1 (by have := Int.ofNat.inj this; exact this)
theorem byt_app_lt (a b : ByteArray) (j : Nat) (h : j < a.size) : byt (a ++ b) j = byt a j := by
  have h' : j < a.data.size := h
  unfold byt
  rw [ByteArray.data_append, Array.getD_eq_getD_getElem?, Array.getD_eq_getD_getElem?, Array.getElem?_append_left h']
theorem byt_app_ge (a b : ByteArray) (j : Nat) (h : a.size ≤ j) : byt (a ++ b) j = byt b (j - a.size) := by
  have h' : a.data.size ≤ j := h
  unfold byt
  rw [ByteArray.data_append, Array.getD_eq_getD_getElem?, Array.getD_eq_getD_getElem?, Array.getElem?_append_right h']; rfl
theorem byt_d1 (n : Nat) (h : n ≤ 9) : byt (d1 n) 0 = 48 + n := by
  unfold byt d1
  show ((UInt8.ofNat (48 + n)).toNat : Int) = 48 + n
  rw [UInt8.toNat_ofNat_of_lt' (by simp [UInt8.size]; omega)]; omega
theorem byt_two0 (n : Nat) (h : n ≤ 99) : byt (twoD n) 0 = 48 + (n / 10 : Nat) := by
  unfold twoD; rw [byt_app_lt _ _ _ (by rw [d1_size]; omega)]; exact byt_d1 _ (by omega)
theorem byt_two1 (n : Nat) : byt (twoD n) 1 = 48 + (n % 10 : Nat) := by
  unfold twoD; rw [byt_app_ge _ _ _ (by rw [d1_size]; omega), d1_size]; exact byt_d1 _ (by omega)
/-- a letter that was taken has just the bytes that it was taken from -/
theorem take_row (s : ByteArray) (h : takeC s = 0) : lrow (takeL s) = s.extract 0 (takeN s) := by
  obtain ⟨h1, h2, h3, h4, h5, h6, h7⟩ := take_head s h
  have hb := takeN_bound s h
  rw [h7]
  have e1 : (s.extract 0 1).size = 1 := by simp; omega
  have e2 : (s.extract 3 (takeN s)).size = takeN s - 3 := by simp; omega
  have e3 : (s.extract 0 (takeN s)).size = takeN s := by simp; omega
  have e4 := twoD_size (takeN s - 3)
  unfold lrow
  simp only
  rw [e2]
  have e5 : (s.extract 0 1 ++ twoD (takeN s - 3)).size = 3 := by rw [ByteArray.size_append]; omega
  apply bytes_ext
  · rw [ByteArray.size_append, e5, e2, e3]; omega
  · intro j hj
    rw [ByteArray.size_append, e5, e2] at hj
    rw [byt_extract s 0 (takeN s) j (by omega) hb.2, Nat.zero_add]
    by_cases j3 : j < 3
    · rw [byt_app_lt _ _ _ (by omega)]
      by_cases j1 : j < 1
      · obtain rfl : j = 0 := by omega
        rw [byt_app_lt _ _ _ (by omega), byt_extract s 0 1 0 (by omega) (by omega)]
      · rw [byt_app_ge _ _ _ (by omega), e1]
        by_cases j2 : j = 1
        · subst j2
          rw [byt_two0 _ (by omega)]; omega
        · obtain rfl : j = 2 := by omega
          rw [byt_two1 _]; omega
    · rw [byt_app_ge _ _ _ (by omega), e5, byt_extract s 3 (takeN s) (j - 3) (by omega) hb.2]
      congr 1; omega
end Go.Proofs.YtannpeedfakhkaaDoor
