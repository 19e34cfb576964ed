import Derived.Test.YtpjkcmmmpgncmaaM06
import Derived.Test.YtpjkcmmmpgncmaaM07
/- The reference's LetterOk and LetterText. -/
namespace Go.Proofs.Ytpjkcmmmpgncmaa
open Go.RowKit
def bodyOk (s : ByteArray) : Bool := decide (∀ j, j < s.size → bodB (byt s j) = true)
theorem bodyOk_yes {s : ByteArray} (h : ∀ j, j < s.size → bodB (byt s j) = true) : bodyOk s = true := by unfold bodyOk; simpa using h
theorem bodyOk_no {s : ByteArray} {j : Nat} (h : j < s.size) (hb : bodB (byt s j) = false) : bodyOk s = false := by
  unfold bodyOk; simp only [decide_eq_false_iff_not]; intro h2; rw [h2 j h] at hb; cases hb
/-- a letter that is one -/
def letB (x : Let) : Bool := decide (x.1.size = 1) && sgnB (byt x.1 0) && decide (x.2.size ≤ 40) && bodyOk x.2
set_option maxRecDepth 100000 in
set_option maxHeartbeats 1000000 in
theorem specOk_any (x : Let) (w : World) (h1 : x.1.size ≤ maxLen) (h2 : x.2.size ≤ maxLen) :
    Calls Try.prog 136 #[.agg #[.string x.1, .string x.2]] w fun e w' => e = .returned (.bool (letB x)) ∧ Below w.heap.size w w' := by
  obtain ⟨s, t⟩ := x
  simp only at h1 h2 ⊢
  unfold maxLen at h1 h2
  have hbw : Below w.heap.size w (w.alloc (.cells #[.string s, .string t] 94)) := (Below.refl _ _).alloc (Nat.le_refl _) _
  by_cases hs : s.size = 1
  · have hs' : ((s.size : Int) != 1) = false := by simp [hs]
    by_cases hg : sgnB (byt s 0) = true
    · by_cases ht : t.size ≤ 40
      · have HL := Lib.hid (show letB (s, t) = bodyOk t by unfold letB; simp [hs, hg, ht])
        have HG := Lib.hid hg
        have ht' : decide (40 < (t.size : Int)) = false := by simp; omega
        clear hg
        go_enter Try.func136, Try.ntmps136
        go_wp2_with fail
        rw [byt_eq s 0 (by omega)]
        refine (specSign_any _ _ (byt_lo _ _) (byt_hi _ _)).mono ?_
        rintro e w1 ⟨rfl, rfl⟩
        rw [HG.out]
        go_wp2
        go_loop [3] (fun i => ∃ k : Nat, k ≤ t.size ∧ i = .int .i64 k ∧ ∀ j, j < k → bodB (byt t j) = true) (fun i => t.size - (intOf i).toNat)
        case atStart => exact ⟨0, by omega, rfl, fun j hj => absurd hj (by omega)⟩
        case round =>
          obtain ⟨k, hk, rfl, hok⟩ := hrel
          have HK := Lib.hid hok
          clear hok
          by_cases hlt : k < t.size
          · go_wp2_with fail
            rw [byt_eq t k hlt]
            refine (specBody_any _ _ (byt_lo _ _) (byt_hi _ _)).mono ?_
            rintro e w2 ⟨rfl, rfl⟩
            by_cases hb : bodB (byt t k) = true
            · have HH := Lib.hid hb
              rw [hb]
              clear hb
              go_wp2
              go_round
              case rel => exact ⟨k + 1, by omega, by go_num, fun j hj => by
                by_cases h : j < k
                · exact HK.out j h
                · obtain rfl : j = k := by omega
                  exact HH.out⟩
              case measure => simp [intOf]; omega
            · have hb' : bodB (byt t k) = false := by simpa using hb
              have HH := Lib.hid hb'
              rw [hb']
              clear hb hb'
              go_wp2
              go_ret
              exact ⟨ret_bool (by rw [HL.out, bodyOk_no hlt HH.out]), hbw⟩
          · obtain rfl : k = t.size := by omega
            go_wp2
            go_ret
            exact ⟨ret_bool (by rw [HL.out, bodyOk_yes HK.out]), hbw⟩
      · have HL := Lib.hid (show letB (s, t) = false by unfold letB; simp [ht])
        have HG := Lib.hid hg
        have ht' : decide (40 < (t.size : Int)) = true := by simp; omega
        clear hg
        go_enter Try.func136, Try.ntmps136
        go_wp2_with fail
        rw [byt_eq s 0 (by omega)]
        refine (specSign_any _ _ (byt_lo _ _) (byt_hi _ _)).mono ?_
        rintro e w1 ⟨rfl, rfl⟩
        rw [HG.out]
        go_wp2
        go_ret
        exact ⟨ret_bool HL.out.symm, hbw⟩
    · have hg' : sgnB (byt s 0) = false := by simpa using hg
      have HL := Lib.hid (show letB (s, t) = false by unfold letB; simp [hg'])
      have HG := Lib.hid hg'
      clear hg hg'
      go_enter Try.func136, Try.ntmps136
      go_wp2_with fail
      rw [byt_eq s 0 (by omega)]
      refine (specSign_any _ _ (byt_lo _ _) (byt_hi _ _)).mono ?_
      rintro e w1 ⟨rfl, rfl⟩
      rw [HG.out]
      go_wp2
      go_ret
      exact ⟨ret_bool HL.out.symm, hbw⟩
  · have hs' : ((s.size : Int) != 1) = true := by simp; omega
    have HL := Lib.hid (show letB (s, t) = false by unfold letB; simp [hs])
    go_enter Try.func136, Try.ntmps136
    go_wp2
    go_ret
    exact ⟨ret_bool HL.out.symm, hbw⟩
/-- the bytes of a letter -/
def ltText (x : Let) : ByteArray := if letB x = true then x.1 ++ twoD x.2.size ++ x.2 else bEmpty
theorem ltText_size (x : Let) : (ltText x).size ≤ 43 := by
  unfold ltText; split
  · rename_i h
    unfold letB at h
    simp at h
    simp [twoD_size]; omega
  · show 0 ≤ 43; omega
set_option maxRecDepth 100000 in
set_option maxHeartbeats 1000000 in
theorem specText_any (x : Let) (w : World) (h1 : x.1.size ≤ maxLen) (h2 : x.2.size ≤ maxLen) :
    Calls Try.prog 164 #[.agg #[.string x.1, .string x.2]] w fun e w' => e = .returned (.string (ltText x)) ∧ Below w.heap.size w w' := by
  obtain ⟨s, t⟩ := x
  simp only at h1 h2 ⊢
  have hbw : Below w.heap.size w (w.alloc (.cells #[.string s, .string t] 94)) := (Below.refl _ _).alloc (Nat.le_refl _) _
  have hB := Blk.new w 94 #[.string s, .string t]
  by_cases hb : letB (s, t) = true
  · have HL := Lib.hid (show ltText (s, t) = s ++ twoD t.size ++ t by unfold ltText; rw [if_pos hb])
    have hsz : s.size = 1 ∧ t.size ≤ 40 := by unfold letB at hb; simp at hb; omega
    obtain ⟨hs1, ht1⟩ := hsz
    have HB := Lib.hid hb
    clear hb
    go_enter Try.func164, Try.ntmps164
    go_wp2_with fail
    refine (specOk_any (s, t) _ (by simpa using h1) (by simpa using h2)).mono ?_
    rintro e w1 ⟨rfl, hb1⟩
    rw [HB.out]
    have hB1 := hB.kept hb1
    have c0 : w1.cell? ⟨w.heap.size, 0, none⟩ = some (.string s) := hB1.cell 0
    have c1 : w1.cell? ⟨w.heap.size, 1, none⟩ = some (.string t) := hB1.cell 1
    have hbl := hB1.lt
    have hb2 := hbw.trans (hb1.mono (by simp))
    have hs2 := twoD_size t.size
    go_wp2_with fail
    have e3 : s.size + (twoD t.size).size ≤ 43 := by omega
    have e4 : (s ++ twoD t.size).size = 3 := by rw [ByteArray.size_append]; omega
    have e5 : ¬ (9223372036854775807 < 3 + t.size) := by omega
    refine wp_region_below (by kernel_rfl) (by kernel_rfl) ?_
    iterate 11 (refine wpQuiet_step (fun K hK => ?_); go_simp; first | (apply Exists.intro; refine ⟨fun W hW => ?_, hK _ ?_⟩; (first | rfl | (go_at_call 193; exact quiet_call hW (Nat.le_refl _) (two_any t.size _ (by omega))) | (have f0 := (hW.cell (p := ⟨w.heap.size, 0, none⟩) hbl).trans c0; have f1 := (hW.cell (p := ⟨w.heap.size, 1, none⟩) hbl).trans c1; go_simp; rfl)); clear hK K) | (refine hK _ ?_; clear hK K))
    refine wpQuiet_nil ?_
    intro W hW
    have hb3 := hb2.trans (hW.mono (by omega))
    go_wp2
    go_ret
    exact ⟨ret_str HL.out.symm, hb3⟩
  · have HL := Lib.hid (show ltText (s, t) = bEmpty by unfold ltText; rw [if_neg hb])
    have hb' : letB (s, t) = false := by simpa using hb
    have HB := Lib.hid hb'
    clear hb hb'
    go_enter Try.func164, Try.ntmps164
    go_wp2_with fail
    refine (specOk_any (s, t) _ (by simpa using h1) (by simpa using h2)).mono ?_
    rintro e w1 ⟨rfl, hb1⟩
    rw [HB.out]
    have hb2 := hbw.trans (hb1.mono (by simp))
    go_wp2
    go_ret
    exact ⟨ret_str HL.out.symm, hb2⟩
end Go.Proofs.Ytpjkcmmmpgncmaa
/- What waits for more bytes is short; what is taken is no longer than the bytes. -/
namespace Go.Proofs.Ytpjkcmmmpgncmaa
open Go.RowKit
theorem measFrom_wait (s : ByteArray) : ∀ f i, measFrom s f i = (0, false) → ∀ j, i ≤ j → j < i + f → okAt s j = true ∧ fullB (j + 1) (szAt s (j + 1)) = false
  | 0, _, _, _, _, _ => by omega
  | f + 1, i, h, j, h1, h2 => by
    unfold measFrom at h
    by_cases a : okAt s i = false
    · rw [if_pos a] at h; exact absurd h (by simp)
    · rw [if_neg a] at h
      by_cases b : fullB (i + 1) (szAt s (i + 1)) = true
      · rw [if_pos b] at h; exact absurd h (by simp)
      · rw [if_neg b] at h
        by_cases e : j = i
        · subst e
          exact ⟨by simpa using a, by simpa using b⟩
        · exact measFrom_wait s f (i + 1) h j (by omega) (by omega)
theorem takeC_or (s : ByteArray) : takeC s = 0 ∨ takeC s = 1 ∨ takeC s = 2 := by
  unfold takeC
  split
  · exact .inr (.inr rfl)
  · split
    · exact .inr (.inl rfl)
    · exact .inl rfl
theorem takeW_size (s : ByteArray) (h : takeC s = 1) : s.size ≤ 43 := by
  apply Nat.le_of_not_lt
  intro hs
  unfold takeC at h
  split at h
  · omega
  · rename_i h2
    split at h
    · rename_i h1
      have hm : meas s = (0, false) := Prod.ext h1 (by simpa using h2)
      unfold meas at hm
      have hw := measFrom_wait s s.size 0 hm
      have o1 := (hw 1 (by omega) (by omega)).1
      have o2 := (hw 2 (by omega) (by omega)).1
      rw [okAt_1] at o1
      rw [okAt_2] at o2
      simp only [Bool.and_eq_true, decide_eq_true_eq] at o1 o2
      have d1 := digB_yes o1.1
      have d2 := digB_yes o2.1
      have hz := szAt_3 s
      obtain ⟨n, hn⟩ : ∃ n : Nat, szAt s 3 = (n : Int) := ⟨(szAt s 3).toNat, by omega⟩
      have hn40 : n ≤ 40 := by omega
      have hf := (hw (2 + n) (by omega) (by omega)).2
      have hy := full_yes s (2 + n + 1) (by omega) (by omega)
      rw [hy] at hf
      exact absurd hf (by decide)
    · omega
theorem takeF_size (s : ByteArray) (h : takeC s = 0) : 3 ≤ takeN s ∧ takeN s ≤ s.size := by
  unfold takeC at h
  unfold takeN
  split at h
  · omega
  · rename_i h2
    rw [if_neg h2]
    split at h
    · omega
    · rename_i h1
      exact meas_bound s h1
theorem take_size (s : ByteArray) : (takeL s).1.size ≤ 1 ∧ (takeL s).2.size ≤ s.size := by
  unfold takeL
  split
  · exact ⟨by rw [ByteArray.size_extract]; omega, by rw [ByteArray.size_extract]; rename_i h; have := takeF_size s h; omega⟩
  · exact ⟨by decide, Nat.zero_le _⟩
/-- how LettersText leaves, its bound alone -/
def TxB (w : World) (n : Nat) (e : Ending) (w' : World) : Prop := ∃ t : ByteArray, e = .returned (.string t) ∧ t.size ≤ 43 * n ∧ Below w.heap.size w w'
set_option maxRecDepth 100000 in
set_option maxHeartbeats 1000000 in
theorem textsB_any (A : Option Addr) (l : List Let) (c : Nat) (w : World) (hn : l.length ≤ 1048576) (hR : Sl encLet 2 w A l) (hf : ∀ x ∈ l, x.1.size ≤ maxLen ∧ x.2.size ≤ maxLen) :
    Calls Try.prog 138 #[.slice A l.length c] w (TxB w l.length) := by
  have HF := Lib.hid hf
  clear hf
  go_enter Try.func138, Try.ntmps138
  go_wp2
  go_loopw [3, 4] (fun a i wr => ∃ (t : ByteArray) (k : Nat), a = .string t ∧ i = .int .i64 k ∧ k ≤ l.length ∧ t.size ≤ 43 * k ∧ Below w.heap.size w wr) (fun _ i _ => l.length - (intOf i).toNat)
  case atStart => exact ⟨_, 0, rfl, rfl, by omega, Nat.le_refl _, Below.refl _ _⟩
  case round =>
    obtain ⟨t, k, rfl, rfl, hk, hsz, hb⟩ := hrel
    have hsw := hb.size
    by_cases hlt : k < l.length
    · obtain ⟨b, o, rfl, hbl, c0, c1⟩ := Sl.at2 (hR.below hb) hlt
      have hx := HF.out _ (List.getElem_mem hlt)
      generalize l[k] = x at *
      clear hR
      go_wp2_with fail
      refine (specOk_any x _ hx.1 hx.2).mono ?_
      rintro e w1 ⟨rfl, hb1⟩
      have d0 := (hb1.cell (p := ⟨b, o + k * 2, none⟩) hbl).trans c0
      have d1 := (hb1.cell (p := ⟨b, o + k * 2 + 1, none⟩) hbl).trans c1
      have hb01 := bthen hb hb1
      by_cases hL : letB x = true
      · have hts := ltText_size x
        rw [hL]
        clear hL hb1 c0 c1 hb
        go_wp2_with fail
        refine (specText_any x _ hx.1 hx.2).mono ?_
        rintro e w2 ⟨rfl, hb2⟩
        have hb02 := bthen hb01 hb2
        generalize ltText x = y at *
        have hcc : ¬ 9223372036854775807 < t.size + y.size := by omega
        clear d0 d1 hb2 hb01
        go_wp2
        go_roundw
        case rel => exact ⟨t ++ y, k + 1, rfl, by go_num, by omega, by rw [ByteArray.size_append]; omega, hb02⟩
        case measure => simp [intOf]; omega
      · have hLf : letB x = false := by simpa using hL
        rw [hLf]
        clear hb1 c0 c1 hb
        go_wp2
        go_ret
        exact ⟨_, rfl, Nat.zero_le _, hb01⟩
    · obtain rfl : k = l.length := by omega
      go_wp2
      go_ret
      exact ⟨t, rfl, hsz, hb⟩
end Go.Proofs.Ytpjkcmmmpgncmaa
