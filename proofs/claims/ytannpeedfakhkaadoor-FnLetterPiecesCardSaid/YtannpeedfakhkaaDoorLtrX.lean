/- Plain laws: beginnings of bytes, and letters read back from their bytes. -/
import Derived.Test.YtannpeedfakhkaaDoorLtrW
namespace Go.Proofs.YtannpeedfakhkaaDoor
open Go.RowKit
theorem szAt_congr {s t : ByteArray} {i : Nat} (h : ∀ j, j < i → byt s j = byt t j) : szAt s i = szAt t i := by
  unfold szAt
  by_cases h2 : i < 2
  · rw [if_pos h2, if_pos h2]
  · rw [if_neg h2, if_neg h2]
    by_cases h3 : i = 2
    · rw [if_pos h3, if_pos h3, h 1 (by omega)]
    · rw [if_neg h3, if_neg h3, h 1 (by omega), h 2 (by omega)]
theorem okAt_congr {s t : ByteArray} {i : Nat} (h : ∀ j, j < i + 1 → byt s j = byt t j) : okAt s i = okAt t i := by
  unfold okAt; rw [szAt_congr (fun j hj => h j (by omega)), h i (by omega)]
def Fll (s : ByteArray) (n : Nat) : Prop := 3 ≤ n ∧ (n : Int) = 3 + szAt s 3
theorem fll_congr {s t : ByteArray} {i n : Nat} (h : ∀ j, j < i → byt s j = byt t j) (hn : n ≤ i) : Fll s n ↔ Fll t n := by
  unfold Fll
  by_cases h3 : 3 ≤ n
  · rw [szAt_congr (s := s) (t := t) (i := 3) (fun j hj => h j (by omega))]
  · exact ⟨fun h => absurd h.1 h3, fun h => absurd h.1 h3⟩
def BadAt (s : ByteArray) (k : Nat) : Prop := k < s.size ∧ (∀ j, j < k → okAt s j = true) ∧ (∀ j, j < k → ¬ Fll s (j + 1)) ∧ okAt s k = false
def WaitAll (s : ByteArray) : Prop := (∀ j, j < s.size → okAt s j = true) ∧ (∀ j, j < s.size → ¬ Fll s (j + 1))
def FineAt (s : ByteArray) (n : Nat) : Prop := n ≤ s.size ∧ (∀ j, j < n → okAt s j = true) ∧ Fll s n
theorem measFrom_cases (s : ByteArray) : ∀ f i, i + f = s.size → (∀ j, j < i → okAt s j = true) → (∀ j, j < i → ¬ Fll s (j + 1)) →
    (measFrom s f i = (0, true) ∧ ∃ k, BadAt s k) ∨ (measFrom s f i = (0, false) ∧ WaitAll s) ∨ ∃ n, measFrom s f i = (n, false) ∧ FineAt s n
  | 0, i, hi, hok, hf => .inr (.inl ⟨rfl, fun j hj => hok j (by omega), fun j hj => hf j (by omega)⟩)
  | f + 1, i, hi, hok, hf => by
    unfold measFrom
    by_cases h1 : okAt s i = false
    · rw [if_pos h1]; exact .inl ⟨rfl, i, by omega, hok, hf, h1⟩
    · rw [if_neg h1]
      have hok' : ∀ j, j < i + 1 → okAt s j = true := fun j hj => by
        by_cases hji : j < i
        · exact hok j hji
        · obtain rfl : j = i := by omega
          simpa using h1
      by_cases h3 : fullB (i + 1) (szAt s (i + 1)) = true
      · rw [if_pos h3]
        unfold fullB at h3
        simp at h3
        have e := szAt_ge s (i + 1) (by omega)
        exact .inr (.inr ⟨i + 1, rfl, by omega, hok', by omega, by omega⟩)
      · rw [if_neg h3]
        refine measFrom_cases s f (i + 1) (by omega) hok' (fun j hj => ?_)
        by_cases hji : j < i
        · exact hf j hji
        · obtain rfl : j = i := by omega
          intro hF
          exact h3 (full_yes s (j + 1) hF.1 hF.2)
theorem take_cases (s : ByteArray) : (takeC s = 2 ∧ takeN s = 0 ∧ takeL s = (bEmpty, bEmpty) ∧ ∃ k, BadAt s k) ∨ (takeC s = 1 ∧ takeN s = 0 ∧ takeL s = (bEmpty, bEmpty) ∧ WaitAll s) ∨
    (takeC s = 0 ∧ FineAt s (takeN s) ∧ takeL s = (s.extract 0 1, s.extract 3 (takeN s))) := by
  rcases measFrom_cases s s.size 0 (by omega) (fun j hj => absurd hj (by omega)) (fun j hj => absurd hj (by omega)) with ⟨h, hk⟩ | ⟨h, hk⟩ | ⟨n, h, hk⟩
  · obtain ⟨a, b, c⟩ := take_bad (s := s) h
    exact .inl ⟨a, b, c, hk⟩
  · obtain ⟨a, b, c⟩ := take_wait (s := s) h
    exact .inr (.inl ⟨a, b, c, hk⟩)
  · obtain ⟨a, b, c⟩ := take_fine (s := s) h (by have := hk.2.2.1; omega)
    exact .inr (.inr ⟨a, b ▸ hk, b ▸ c⟩)
theorem bad_take {s : ByteArray} {k : Nat} (h : BadAt s k) : takeC s = 2 ∧ takeN s = 0 ∧ takeL s = (bEmpty, bEmpty) := take_bad (meas_bad s k h.1 h.2.1 (fun j hj hF => h.2.2.1 j hj hF) h.2.2.2)
theorem wait_take {s : ByteArray} (h : WaitAll s) : takeC s = 1 ∧ takeN s = 0 ∧ takeL s = (bEmpty, bEmpty) := take_wait (meas_wait s h.1 (fun j hj hF => h.2 j hj hF))
theorem fine_take {s : ByteArray} {n : Nat} (h : FineAt s n) : takeC s = 0 ∧ takeN s = n ∧ takeL s = (s.extract 0 1, s.extract 3 n) := by
  obtain ⟨h1, h2, h3, h4⟩ := h
  obtain ⟨i, rfl⟩ : ∃ i, n = i + 1 := ⟨n - 1, by omega⟩
  exact take_fine (meas_fine s i (by omega) (fun j hj => h2 j (by omega)) h3 h4) (by omega)
theorem ext_app (s t : ByteArray) {a b : Nat} (h : b ≤ s.size) : (s ++ t).extract a b = s.extract a b := by
  have hs : (s ++ t).size = s.size + t.size := ByteArray.size_append
  apply bytes_ext
  · simp; omega
  · intro j hj
    simp at hj
    rw [byt_extract _ a b j (by omega) (by omega), byt_extract _ a b j (by omega) h, byt_app_lt _ _ _ (by omega)]
theorem ext_left (s t : ByteArray) : (s ++ t).extract s.size (s ++ t).size = t := by
  have hs : (s ++ t).size = s.size + t.size := ByteArray.size_append
  apply bytes_ext
  · simp
  · intro j hj
    simp at hj
    rw [byt_extract _ _ _ j (by omega) (by omega), byt_app_ge _ _ _ (by omega)]
    congr 1; omega
theorem ext_join (s : ByteArray) {k : Nat} (h : k ≤ s.size) : s.extract 0 k ++ s.extract k s.size = s := by
  have h1 : (s.extract 0 k).size = k := by simp; omega
  have h2 : (s.extract k s.size).size = s.size - k := by simp
  apply bytes_ext
  · rw [ByteArray.size_append]; omega
  · intro j hj
    rw [ByteArray.size_append] at hj
    by_cases hjk : j < k
    · rw [byt_app_lt _ _ _ (by omega), byt_extract _ _ _ _ (by omega) h, Nat.zero_add]
    · rw [byt_app_ge _ _ _ (by omega), byt_extract _ _ _ _ (by omega) (by omega), h1]
      congr 1; omega
/-- what is bad is bad with more behind it -/
theorem take_app_bad (s t : ByteArray) (h : takeC s = 2) : takeC (s ++ t) = 2 := by
  rcases take_cases s with ⟨_, _, _, k, hk, h1, h2, h3⟩ | ⟨h1, _⟩ | ⟨h1, _⟩
  · have hs : (s ++ t).size = s.size + t.size := ByteArray.size_append
    have hb : ∀ j, j < s.size → byt (s ++ t) j = byt s j := fun j hj => byt_app_lt s t j hj
    refine (bad_take (k := k) ⟨by omega, fun j hj => ?_, fun j hj => ?_, ?_⟩).1
    · rw [okAt_congr (t := s) (fun i hi => hb i (by omega))]; exact h1 j hj
    · rw [fll_congr (t := s) (i := s.size) hb (by omega)]; exact h2 j hj
    · rw [okAt_congr (t := s) (fun i hi => hb i (by omega))]; exact h3
  · omega
  · omega
/-- a letter is taken, whatever stands behind it -/
theorem take_app_fine (s t : ByteArray) (h : takeC s = 0) : takeC (s ++ t) = 0 ∧ takeN (s ++ t) = takeN s ∧ takeL (s ++ t) = takeL s := by
  rcases take_cases s with ⟨h1, _⟩ | ⟨h1, _⟩ | ⟨_, ⟨h1, h2, h3⟩, h4⟩
  · omega
  · omega
  · have hs : (s ++ t).size = s.size + t.size := ByteArray.size_append
    have hb : ∀ j, j < s.size → byt (s ++ t) j = byt s j := fun j hj => byt_app_lt s t j hj
    have h33 := h3.1
    obtain ⟨a, b, c⟩ := fine_take (s := s ++ t) (n := takeN s) ⟨by omega, fun j hj => by rw [okAt_congr (t := s) (fun i hi => hb i (by omega))]; exact h2 j hj, (fll_congr (t := s) (i := s.size) hb h1).2 h3⟩
    refine ⟨a, b, ?_⟩
    rw [c, h4, ext_app _ _ (by omega), ext_app _ _ h1]
/-- a beginning of a letter waits -/
theorem take_pre (s : ByteArray) (k : Nat) (h : takeC s = 0) (hk : k < takeN s) : takeC (s.extract 0 k) = 1 := by
  rcases take_cases s with ⟨h1, _⟩ | ⟨h1, _⟩ | ⟨_, ⟨h1, h2, h3⟩, h4⟩
  · omega
  · omega
  · have hs : (s.extract 0 k).size = k := by simp; omega
    have hb : ∀ j, j < k → byt (s.extract 0 k) j = byt s j := fun j hj => by rw [byt_extract _ _ _ _ (by omega) (by omega), Nat.zero_add]
    refine (wait_take ⟨fun j hj => ?_, fun j hj => ?_⟩).1
    · rw [okAt_congr (t := s) (fun i hi => hb i (by omega))]; exact h2 j (by omega)
    · rw [fll_congr (t := s) (i := k) hb (by omega)]
      intro hF
      have := hF.2
      have := h3.2
      omega
/-- a letter is read back from its bytes, whatever stands behind them -/
theorem lrow_take (x : Let) (t : ByteArray) (h : letB x = true) : takeC (lrow x ++ t) = 0 ∧ takeN (lrow x ++ t) = x.2.size + 3 ∧ takeL (lrow x ++ t) = x ∧ (lrow x).size = x.2.size + 3 := by
  obtain ⟨a, b⟩ := x
  unfold letB at h
  simp only [Bool.and_eq_true, decide_eq_true_eq] at h
  obtain ⟨⟨⟨h1, h2⟩, h3⟩, h4⟩ := h
  have h4' : ∀ j, j < b.size → bodB (byt b j) = true := by unfold bodyOk at h4; simpa using h4
  have ht := twoD_size b.size
  have e1 : (a ++ twoD b.size).size = 3 := by rw [ByteArray.size_append]; omega
  have e2 : (lrow (a, b)).size = b.size + 3 := by unfold lrow; simp only; rw [ByteArray.size_append]; omega
  have hs : (lrow (a, b) ++ t).size = b.size + 3 + t.size := by rw [ByteArray.size_append]; omega
  have hb : ∀ j, j < b.size + 3 → byt (lrow (a, b) ++ t) j = byt (lrow (a, b)) j := fun j hj => byt_app_lt _ _ _ (by omega)
  have b0 : byt (lrow (a, b)) 0 = byt a 0 := by unfold lrow; simp only; rw [byt_app_lt _ _ _ (by omega), byt_app_lt _ _ _ (by omega)]
  have b1 : byt (lrow (a, b)) 1 = 48 + (b.size / 10 : Nat) := by unfold lrow; simp only; rw [byt_app_lt _ _ _ (by omega), byt_app_ge _ _ _ (by omega), h1]; exact byt_two0 _ (by omega)
  have b2 : byt (lrow (a, b)) 2 = 48 + (b.size % 10 : Nat) := by unfold lrow; simp only; rw [byt_app_lt _ _ _ (by omega), byt_app_ge _ _ _ (by omega), h1]; exact byt_two1 _
  have b3 : ∀ j, byt (lrow (a, b)) (3 + j) = byt b j := fun j => by
    unfold lrow; simp only; rw [byt_app_ge _ _ _ (by omega), e1]; congr 1; omega
  have ok : ∀ j, j < b.size + 3 → okAt (lrow (a, b)) j = true := fun j hj => by
    by_cases j0 : j = 0
    · subst j0; rw [okAt_0, b0]; exact h2
    · by_cases j1 : j = 1
      · subst j1; rw [okAt_1, b1]; unfold digB; simp; omega
      · by_cases j2 : j = 2
        · subst j2; rw [okAt_2, b1, b2]; unfold digB; simp; omega
        · rw [okAt_body _ _ (by omega), show j = 3 + (j - 3) by omega, b3]; exact h4' _ (by omega)
  have sz : szAt (lrow (a, b)) 3 = b.size := by rw [szAt_3, b1, b2]; omega
  obtain ⟨c, d, e⟩ := fine_take (s := lrow (a, b) ++ t) (n := b.size + 3) ⟨by omega, fun j hj => by rw [okAt_congr (t := lrow (a, b)) (fun i hi => hb i (by omega))]; exact ok j hj,
    (fll_congr (t := lrow (a, b)) (i := b.size + 3) hb (Nat.le_refl _)).2 ⟨by omega, by rw [sz]; omega⟩⟩
  refine ⟨c, d, ?_, e2⟩
  rw [e]
  have g1 : (lrow (a, b) ++ t).extract 0 1 = a := by
    apply bytes_ext
    · simp; omega
    · intro j hj
      simp at hj
      obtain rfl : j = 0 := by omega
      rw [byt_extract _ _ _ _ (by omega) (by omega), hb _ (by omega)]; exact b0
  have g2 : (lrow (a, b) ++ t).extract 3 (b.size + 3) = b := by
    apply bytes_ext
    · simp; omega
    · intro j hj
      simp at hj
      rw [byt_extract _ _ _ _ (by omega) (by omega), hb _ (by omega)]; exact b3 j
  rw [g1, g2]
def tx (l : List Let) : ByteArray := ⟨(txts l).toArray⟩
theorem tx_nil : tx [] = bEmpty := rfl
theorem tx_cons (x : Let) (l : List Let) : tx (x :: l) = lrow x ++ tx l := by
  unfold tx txts
  apply ByteArray.ext
  simp
theorem app_assoc (a b c : ByteArray) : (a ++ b) ++ c = a ++ (b ++ c) := by
  apply ByteArray.ext
  simp [ByteArray.data_append]
theorem app_empty (a : ByteArray) : a ++ bEmpty = a := by
  apply ByteArray.ext
  simp [ByteArray.data_append]
theorem empty_app (a : ByteArray) : bEmpty ++ a = a := by
  apply ByteArray.ext
  simp [ByteArray.data_append]
/-- letters one behind the other are taken so -/
theorem all_app (t : ByteArray) : ∀ l : List Let, okAll l = true → allL (tx l ++ t) = l ++ allL t ∧ allR (tx l ++ t) = allR t ∧ allC (tx l ++ t) = allC t
  | [], _ => by rw [tx_nil, empty_app]; exact ⟨rfl, rfl, rfl⟩
  | x :: l, h => by
    have h' : letB x = true ∧ okAll l = true := by unfold okAll at h; simpa [okAll] using h
    obtain ⟨h1, h2, h3⟩ := all_app t l h'.2
    rw [tx_cons, app_assoc]
    obtain ⟨c, n, e, z⟩ := lrow_take x (tx l ++ t) h'.1
    have hs : (lrow x ++ (tx l ++ t)).size = (lrow x).size + (tx l ++ t).size := ByteArray.size_append
    have g := all_step (s := lrow x ++ (tx l ++ t)) (by omega) c
    rw [n, ← z, ext_left, e, h1, h2, h3] at g
    unfold allL allR allC
    rw [g]
    exact ⟨rfl, rfl, rfl⟩
/-- the letters that are taken are letters, and have just the bytes ahead of what is left -/
theorem all_txt : ∀ (n : Nat) (s : ByteArray), s.size ≤ n → okAll (allL s) = true ∧ tx (allL s) ++ allR s = s ∧ ((allC s = 0 ∧ allR s = bEmpty) ∨ (allC s ≠ 0 ∧ 0 < (allR s).size ∧ takeC (allR s) = allC s))
  | n, s, hn => by
    rcases Nat.eq_zero_or_pos s.size with h0 | h0
    · have g := all_nil h0
      have he : s = bEmpty := by
        apply bytes_ext
        · rw [h0]; rfl
        · intro j hj; omega
      unfold allL allR allC
      rw [g]
      exact ⟨rfl, by rw [tx_nil, empty_app, he], .inl ⟨rfl, rfl⟩⟩
    · by_cases hc : takeC s = 0
      · have hb := takeN_bound s hc
        have hsz := extract_size s (takeN s)
        match n, hn with
        | 0, hn => omega
        | n + 1, hn =>
          obtain ⟨h1, h2, h3⟩ := all_txt n (s.extract (takeN s) s.size) (by omega)
          have g := all_step h0 hc
          have e1 : allL s = takeL s :: allL (s.extract (takeN s) s.size) := by unfold allL at g ⊢; rw [g]
          have e2 : allR s = allR (s.extract (takeN s) s.size) := by unfold allR at g ⊢; rw [g]
          have e3 : allC s = allC (s.extract (takeN s) s.size) := by unfold allC at g ⊢; rw [g]
          rw [e1, e2, e3]
          refine ⟨by unfold okAll at h1 ⊢; simp only [List.all_cons, Bool.and_eq_true]; exact ⟨take_let s hc, h1⟩, ?_, h3⟩
          rw [tx_cons, app_assoc, h2, take_row s hc, ext_join s hb.2]
      · have g := all_stop h0 hc
        unfold allL allR allC
        rw [g]
        exact ⟨rfl, by rw [tx_nil, empty_app], .inr ⟨hc, h0, rfl⟩⟩
theorem all_ok (s : ByteArray) : okAll (allL s) = true := (all_txt s.size s (Nat.le_refl _)).1
theorem all_tx (s : ByteArray) : tx (allL s) ++ allR s = s := (all_txt s.size s (Nat.le_refl _)).2.1
theorem all_end (s : ByteArray) : (allC s = 0 ∧ allR s = bEmpty) ∨ (allC s ≠ 0 ∧ 0 < (allR s).size ∧ takeC (allR s) = allC s) := (all_txt s.size s (Nat.le_refl _)).2.2
theorem allR_le (s : ByteArray) : (allR s).size ≤ s.size := by
  have h := congrArg ByteArray.size (all_tx s)
  rw [ByteArray.size_append] at h; omega
/-- whole letters -/
theorem all_whole (l : List Let) (h : okAll l = true) : allL (tx l) = l ∧ allR (tx l) = bEmpty ∧ allC (tx l) = 0 := by
  obtain ⟨a, b, c⟩ := all_app bEmpty l h
  rw [app_empty] at a b c
  have g := all_nil (s := bEmpty) rfl
  refine ⟨?_, ?_, ?_⟩
  · rw [a]; unfold allL; rw [g]; simp
  · rw [b]; unfold allR; rw [g]
  · rw [c]; unfold allC; rw [g]
/-- bytes in two pieces: what is left of the first, with the second -/
theorem all_pieces (s : ByteArray) {k : Nat} (hk : k ≤ s.size) :
    allL s = allL (s.extract 0 k) ++ allL (allR (s.extract 0 k) ++ s.extract k s.size) ∧ allR s = allR (allR (s.extract 0 k) ++ s.extract k s.size) ∧ allC s = allC (allR (s.extract 0 k) ++ s.extract k s.size) := by
  have h := all_app (allR (s.extract 0 k) ++ s.extract k s.size) (allL (s.extract 0 k)) (all_ok _)
  rw [← app_assoc, all_tx, ext_join s hk] at h
  exact h
theorem all_pieces_bad (s : ByteArray) {k : Nat} (hk : k ≤ s.size) (h : allC (s.extract 0 k) = 2) : allC s = 2 ∧ allL s = allL (s.extract 0 k) := by
  obtain ⟨a, b, c⟩ := all_pieces s hk
  rcases all_end (s.extract 0 k) with ⟨h0, _⟩ | ⟨_, h1, h2⟩
  · omega
  · have h3 := take_app_bad (allR (s.extract 0 k)) (s.extract k s.size) (by omega)
    have hs : (allR (s.extract 0 k) ++ s.extract k s.size).size = (allR (s.extract 0 k)).size + (s.extract k s.size).size := ByteArray.size_append
    have g := all_stop (s := allR (s.extract 0 k) ++ s.extract k s.size) (by omega) (by omega)
    rw [a, c]
    have e1 : allL (allR (s.extract 0 k) ++ s.extract k s.size) = [] := by unfold allL; rw [g]
    have e2 : allC (allR (s.extract 0 k) ++ s.extract k s.size) = 2 := by unfold allC; rw [g]; exact h3
    rw [e1, e2]
    exact ⟨rfl, by simp⟩
end Go.Proofs.YtannpeedfakhkaaDoor
