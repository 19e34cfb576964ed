import Derived.Test.YtfmhhckkpenldaaGreatDoorM13
import Derived.Test.YtfmhhckkpenldaaGreatDoorM03
/- The program's GramStep. -/
namespace Go.Proofs.YtfmhhckkpenldaaGreatDoor
open Go.RowKit
set_option maxRecDepth 100000 in
set_option maxHeartbeats 2000000 in
theorem inIdle_any (x : Let) (w : World) (hs : x.2.size ≤ 1073741824) (hV : Env w) :
    Calls Tryz.prog 34 #[.agg #[.string x.1, .string x.2]] w fun e w' => e = .returned (.int .i64 (idleS x)) ∧ Below w.heap.size w w' := by
  obtain ⟨x1, x2⟩ := x
  simp only at hs ⊢
  have hb0 := (Below.refl w.heap.size w).alloc (Nat.le_refl _) (.cells #[.string x1, .string x2] 31)
  have HX := Lib.hid (Blk.new w 31 #[.string x1, .string x2])
  have HV := Lib.hid (hV.below hb0)
  clear hV
  rcases rowsS_cases (x1, x2) with hr | hr | hr
  · have HI := Lib.hid (show idleS (x1, x2) = 0 by unfold idleS; rw [hr]; simp)
    go_enter Tryz.func34, Tryz.ntmps34
    go_wp2_with (go_at_call 35; refine (inRows_any (x1, x2) _ hs HV.out).mono ?_; rintro e w' ⟨rfl, hb⟩; rw [hr])
    go_ret
    exact ⟨ret_int (by rw [HI.out]), hb0.trans (hb.mono (by simp))⟩
  · have HI := Lib.hid (show idleS (x1, x2) = 1 by unfold idleS; rw [hr]; simp)
    go_enter Tryz.func34, Tryz.ntmps34
    go_wp2_with (go_at_call 35; refine (inRows_any (x1, x2) _ hs HV.out).mono ?_; rintro e w' ⟨rfl, hb⟩; rw [hr])
    go_ret
    exact ⟨ret_int (by rw [HI.out]), hb0.trans (hb.mono (by simp))⟩
  · have HI := Lib.hid (show idleS (x1, x2) = if (x1.toList == [69]) = true then (if failW x2 = true then 0 else 3)
        else if (x1.toList == [49]) = true then (if (x2.toList == []) = true then 0 else 3)
        else if (x1.toList == [90]) = true then (if (x2.toList == [105]) = true ∨ (x2.toList == [116]) = true ∨ (x2.toList == [101]) = true then 0 else 3)
        else if (x1.toList == [66]) = true then (if (x2.toList == []) = true then 2 else 3)
        else 3 by unfold idleS; rw [if_pos hr])
    go_enter Tryz.func34, Tryz.ntmps34
    go_wp2_with (first
      | (go_at_call 35; refine (inRows_any (x1, x2) _ hs HV.out).mono ?_; rintro e w' ⟨rfl, hb⟩; rw [hr]; have hX1 := HX.out.kept hb; have y0 := hX1.at_ (i := 0) (by simp); have y1 := hX1.at_ (i := 1) (by simp))
      | (go_at_call 55; refine (failure_any _ _ (HV.out.below hb)).mono ?_; rintro e w'' ⟨rfl, rfl⟩))
    all_goals
      go_ret
      exact ⟨ret_int (by rw [HI.out]; clear HI HX HV; simp_all), hb0.trans (hb.mono (by simp))⟩
/-- how it stands behind a letter, from whatever state -/
def stepG (st : Int) (x : Let) : Int := if letB x = true then (if st = 0 then idleS x else if st = 1 then rowsS x else 3) else 3
end Go.Proofs.YtfmhhckkpenldaaGreatDoor
/- The reference's numerals, pieces and words. -/
namespace Go.Proofs.YtfmhhckkpenldaaGreatDoor
open Go.RowKit
set_option maxRecDepth 100000 in
set_option maxHeartbeats 2000000 in
theorem code_any (c : Nat) (w : World) (hc : c ≤ 6) :
    Calls Tryz.prog 40 #[.int .i64 c] w fun e w' => e = .returned (.string (codeN c)) ∧ Below w.heap.size w w' := by
  rcases (show c = 0 ∨ c = 1 ∨ c = 2 ∨ c = 3 ∨ c = 4 ∨ c = 5 ∨ c = 6 by omega) with rfl | rfl | rfl | rfl | rfl | rfl | rfl
  all_goals
    go_enter Tryz.func40, Tryz.ntmps40
    go_wp2
    go_ret
    exact ⟨rfl, (Below.refl _ _).alloc (Nat.le_refl _) _⟩
set_option maxHeartbeats 2000000 in
theorem word_any (s : ByteArray) (w : World) :
    Calls Tryz.prog 41 #[.string s] w fun e w' => e = .returned (.bool (failW s)) ∧ Below w.heap.size w w' := by
  go_enter Tryz.func41, Tryz.ntmps41
  go_wp2
  go_loopw [3] (fun i wr => ∃ k : Nat, 1 ≤ k ∧ k ≤ 7 ∧ i = .int .i64 k ∧ (∀ j, 1 ≤ j → j < k → ((codeN j).toList == s.toList) = false) ∧ Below w.heap.size w wr) (fun i _ => 7 - (intOf i).toNat)
  case atStart => exact ⟨1, by omega, by omega, rfl, fun j h h2 => by omega, Below.refl _ _⟩
  case round =>
    obtain ⟨k, hk1, hk, rfl, hall, hb⟩ := hrel
    have HA := Lib.hid hall
    clear hall
    by_cases h7 : k ≤ 6
    · cases hc : ((codeN k).toList == s.toList)
      · go_wp2_with (go_at_call 40; refine (code_any k _ h7).mono ?_; rintro e w' ⟨rfl, hb2⟩)
        go_roundw
        case rel => exact ⟨k + 1, by omega, by omega, by go_num, fun j h1 h2 => by
          by_cases e : j < k
          · exact HA.out j h1 e
          · obtain rfl : j = k := by omega
            exact hc, bthen hb hb2⟩
        case measure => simp [intOf]; omega
      · go_wp2_with (go_at_call 40; refine (code_any k _ h7).mono ?_; rintro e w' ⟨rfl, hb2⟩)
        go_ret
        exact ⟨ret_bool (failW_yes hk1 h7 hc).symm, bthen hb hb2⟩
    · obtain rfl : k = 7 := by omega
      go_wp2
      go_ret
      exact ⟨ret_bool (failW_no (fun j h1 h2 => HA.out j h1 h2)).symm, hb⟩
theorem kb_get (t : ByteArray) (j : Nat) (h : j < t.size) : ∃ c, t.data.toList[j]? = some c ∧ kbyt t j = (c.toNat : Int) := by
  refine ⟨t.data[j]'h, by simp [Array.getElem?_toList, Array.getElem?_eq_getElem (show j < t.data.size from h)], ?_⟩
  unfold kbyt; rw [Array.getD_eq_getD_getElem?, Array.getElem?_eq_getElem (show j < t.data.size from h)]; rfl
theorem tl_len (t : ByteArray) : t.data.toList.length = t.size := by rw [Array.length_toList]; rfl
theorem mag_bad {neg : Bool} {t : ByteArray} (h : t.size = 0 ∨ 17 < t.size ∨ (0 < t.size ∧ kbyt t 0 = 48 ∧ (1 < t.size ∨ neg = true))) : magOk neg t.data.toList = false := by
  rw [Bool.eq_false_iff]
  intro hm
  obtain ⟨h1, h2, h3, _⟩ := magOk_iff.1 hm
  rw [tl_len] at h2
  rcases h with h | h | ⟨h0, h, h4⟩
  · apply h1; exact List.eq_nil_of_length_eq_zero (by rw [tl_len]; exact h)
  · omega
  · obtain ⟨c, hc, hk⟩ := kb_get t 0 h0
    rw [hk] at h
    have hc48 : c = 48 := by apply UInt8.toNat_inj.1; simp; omega
    subst hc48
    obtain ⟨g1, g2⟩ := h3 (by rw [List.head?_eq_getElem?]; exact hc)
    rw [tl_len] at g1
    rcases h4 with h4 | h4
    · omega
    · rw [g2] at h4; cases h4
theorem mag_dig {neg : Bool} {t : ByteArray} {j : Nat} (hj : j < t.size) (h : kbyt t j < 48 ∨ 57 < kbyt t j) : magOk neg t.data.toList = false := by
  rw [Bool.eq_false_iff]
  intro hm
  obtain ⟨_, _, _, h4⟩ := magOk_iff.1 hm
  obtain ⟨c, hc, hk⟩ := kb_get t j hj
  unfold digL at h4
  have := List.all_eq_true.1 h4 c (List.mem_of_getElem? hc)
  simp at this
  omega
theorem mag_yes {neg : Bool} {t : ByteArray} (h0 : 0 < t.size) (h17 : t.size ≤ 17) (hh : kbyt t 0 = 48 → t.size ≤ 1 ∧ neg = false) (h : ∀ j, j < t.size → 48 ≤ kbyt t j ∧ kbyt t j ≤ 57) : magOk neg t.data.toList = true := by
  refine magOk_iff.2 ⟨fun e => ?_, by rw [tl_len]; exact h17, fun e => ?_, ?_⟩
  · have := tl_len t; rw [e] at this; simp at this; omega
  · obtain ⟨c, hc, hk⟩ := kb_get t 0 h0
    rw [List.head?_eq_getElem?, hc] at e
    injection e with e; subst e
    rw [tl_len]; exact hh (by rw [hk]; rfl)
  · unfold digL
    rw [List.all_eq_true]
    intro c hc
    obtain ⟨j, hj⟩ := List.getElem?_of_mem hc
    have hlt : j < t.size := by have := (List.getElem?_eq_some_iff.1 hj).1; rwa [tl_len] at this
    obtain ⟨c', hc', hk⟩ := kb_get t j hlt
    rw [hj] at hc'; injection hc' with e; subst e
    have := h j hlt
    simp; omega
theorem numL_neg {s : ByteArray} (h0 : 0 < s.size) (h : kbyt s 0 = 45) : numL s.data.toList = magOk true (s.extract 1 s.size).data.toList := by
  obtain ⟨c, hc, hk⟩ := kb_get s 0 h0
  have hn : negL s.data.toList = true := by
    unfold negL; rw [List.head?_eq_getElem?, hc]
    have : c = 45 := by apply UInt8.toNat_inj.1; simp; omega
    subst this; rfl
  unfold numL; rw [if_pos hn, ext_drop]; simp
theorem numL_pos {s : ByteArray} (h : s.size = 0 ∨ kbyt s 0 ≠ 45) : numL s.data.toList = magOk false s.data.toList := by
  have hn : ¬ negL s.data.toList = true := by
    intro hn
    obtain ⟨r, hr⟩ := negL_iff.1 hn
    have hl := tl_len s
    rw [hr] at hl; simp at hl
    obtain ⟨c, hc, hk⟩ := kb_get s 0 (by omega)
    rw [hr] at hc; simp at hc; subst hc
    rcases h with h | h
    · omega
    · exact h (by rw [hk]; rfl)
  unfold numL; rw [if_neg hn]
set_option maxRecDepth 100000 in
set_option maxHeartbeats 4000000 in
theorem l11Num_any (s : ByteArray) (w : World) (hs : s.size ≤ 1073741824) :
    Calls Tryz.prog 58 #[.string s] w fun e w' => (∃ n, e = .returned (.tuple #[.int .i64 n, .bool (numL s.data.toList)])) ∧ w = w' := by
  by_cases h0 : s.size = 0
  · have h0' : decide (0 < (s.size : Int)) = false := decide_eq_false (by omega)
    have hz : ((s.size : Int) == 0) = true := beq_iff_eq.2 (by omega)
    have HN := Lib.hid (numL_pos (s := s) (.inl h0))
    have HB := Lib.hid (mag_bad (neg := false) (t := s) (.inl h0))
    clear h0
    go_enter Tryz.func58, Tryz.ntmps58
    go_wp2
    go_ret2
    exact ⟨⟨0, by rw [HN.out, HB.out]; simp⟩, rfl⟩
  have h0' : decide (0 < (s.size : Int)) = true := decide_eq_true (by omega)
  have h1 : 1 ≤ s.size := by omega
  have hp : 0 < s.size := by omega
  have hs0 := kbyt_eq s 0 hp
  cases hn : (((s[0]'hp).toNat : Int) == 45)
  · have hN := numL_pos (s := s) (.inr (by rw [← hs0]; simpa using hn))
    have hsz : s.size = s.size := rfl
    clear hs0 h0
    have HN := Lib.hid hN
    clear hN
    by_cases z : s.size = 0
    · have hz : (((s.size : Nat) : Int) == 0) = true := beq_iff_eq.2 (by omega)
      have HB := Lib.hid (mag_bad (neg := false) (t := s) (.inl (by omega)))
      clear z hsz
      go_enter Tryz.func58, Tryz.ntmps58
      go_wp2
      go_ret2
      exact ⟨⟨0, by rw [HN.out, HB.out]; simp⟩, rfl⟩
    have hz : (((s.size : Nat) : Int) == 0) = false := beq_eq_false_iff_ne.2 (by omega)
    by_cases b : 17 < s.size
    · have hb : decide (17 < ((s.size : Nat) : Int)) = true := decide_eq_true (by omega)
      have HB := Lib.hid (mag_bad (neg := false) (t := s) (.inr (.inl (by omega))))
      clear b hsz
      go_enter Tryz.func58, Tryz.ntmps58
      go_wp2
      go_ret2
      exact ⟨⟨0, by rw [HN.out, HB.out]; simp⟩, rfl⟩
    have hb : decide (17 < ((s.size : Nat) : Int)) = false := decide_eq_false (by omega)
    have hpos : 0 < s.size := by omega
    have hk0 := kbyt_eq s 0 hpos
    cases c : ((((s[0]'hpos).toNat : Nat) : Int) == 48)
    · have HH := Lib.hid (show kbyt s 0 ≠ 48 by rw [← hk0]; simpa using c)
      clear hk0
      go_enter Tryz.func58, Tryz.ntmps58
      go_wp2
      go_loopw [5, 6] (fun n i wr => ∃ (k : Nat) (m : Int), k ≤ s.size ∧ n = .int .i64 m ∧ i = .int .i64 k ∧ (∀ j, j < k → 48 ≤ kbyt s j ∧ kbyt s j ≤ 57) ∧ wr = w) (fun _ i _ => s.size - (intOf i).toNat)
      case atStart => exact ⟨0, 0, by omega, rfl, rfl, fun j h => by omega, rfl⟩
      case round =>
        obtain ⟨k, m, hk, rfl, rfl, hall, rfl⟩ := hrel
        have HA := Lib.hid hall
        clear hall
        by_cases hlt : k < s.size
        · have hlt2 : k < s.size := by omega
          have HK := Lib.hid (kbyt_eq s k hlt2)
          have hcc : ((s[k]'hlt2).toNat : Int) ≤ 255 := by have := (s[k]'hlt2).toNat_lt; omega
          go_wp2
          · have h : (((s[k]'hlt2).toNat : Nat) : Int) < 48 := by assumption
            have HB := Lib.hid (mag_dig (neg := false) (t := s) hlt2 (.inl (by rw [← HK.out]; exact h)))
            go_ret2
            exact ⟨⟨0, by rw [HN.out, HB.out]; simp⟩, rfl⟩
          · have h : 57 < (((s[k]'hlt2).toNat : Nat) : Int) := by assumption
            have HB := Lib.hid (mag_dig (neg := false) (t := s) hlt2 (.inr (by rw [← HK.out]; exact h)))
            go_ret2
            exact ⟨⟨0, by rw [HN.out, HB.out]; simp⟩, rfl⟩
          · have h : ¬ (((s[k]'hlt2).toNat : Nat) : Int) < 48 := by assumption
            have h' : (((s[k]'hlt2).toNat : Nat) : Int) ≤ 57 := by assumption
            have hB := HK.out
            go_roundw
            case rel => exact ⟨k + 1, _, by omega, rfl, by go_num, fun j hj => by
              by_cases e : j < k
              · exact HA.out j e
              · obtain rfl : j = k := by omega
                omega, by first | trivial | rfl⟩
            case measure => simp [intOf]; omega
        · obtain rfl : k = s.size := by omega
          have HB := Lib.hid (mag_yes (neg := false) (t := s) hpos (by omega) (fun e => absurd e HH.out) (fun j hj => HA.out j (by omega)))
          go_wp2
          go_ret2
          exact ⟨⟨_, by rw [HN.out, HB.out]; simp; rfl⟩, rfl⟩
    · have HH := Lib.hid (show kbyt s 0 = 48 by rw [← hk0]; simpa using c)
      clear hk0
      by_cases d : 1 < s.size
      · have hd : decide (1 < ((s.size : Nat) : Int)) = true := decide_eq_true (by omega)
        have HB := Lib.hid (mag_bad (neg := false) (t := s) (.inr (.inr ⟨hpos, HH.out, .inl (by omega)⟩)))
        clear d hsz
        go_enter Tryz.func58, Tryz.ntmps58
        go_wp2
        go_ret2
        exact ⟨⟨0, by rw [HN.out, HB.out]; simp⟩, rfl⟩
      · have hd : decide (1 < ((s.size : Nat) : Int)) = false := decide_eq_false (by omega)
        go_enter Tryz.func58, Tryz.ntmps58
        go_wp2
        go_loopw [5, 6] (fun n i wr => ∃ (k : Nat) (m : Int), k ≤ s.size ∧ n = .int .i64 m ∧ i = .int .i64 k ∧ (∀ j, j < k → 48 ≤ kbyt s j ∧ kbyt s j ≤ 57) ∧ wr = w) (fun _ i _ => s.size - (intOf i).toNat)
        case atStart => exact ⟨0, 0, by omega, rfl, rfl, fun j h => by omega, rfl⟩
        case round =>
          obtain ⟨k, m, hk, rfl, rfl, hall, rfl⟩ := hrel
          have HA := Lib.hid hall
          clear hall
          by_cases hlt : k < s.size
          · have hlt2 : k < s.size := by omega
            have HK := Lib.hid (kbyt_eq s k hlt2)
            have hcc : ((s[k]'hlt2).toNat : Int) ≤ 255 := by have := (s[k]'hlt2).toNat_lt; omega
            go_wp2
            · have h : (((s[k]'hlt2).toNat : Nat) : Int) < 48 := by assumption
              have HB := Lib.hid (mag_dig (neg := false) (t := s) hlt2 (.inl (by rw [← HK.out]; exact h)))
              go_ret2
              exact ⟨⟨0, by rw [HN.out, HB.out]; simp⟩, rfl⟩
            · have h : 57 < (((s[k]'hlt2).toNat : Nat) : Int) := by assumption
              have HB := Lib.hid (mag_dig (neg := false) (t := s) hlt2 (.inr (by rw [← HK.out]; exact h)))
              go_ret2
              exact ⟨⟨0, by rw [HN.out, HB.out]; simp⟩, rfl⟩
            · have h : ¬ (((s[k]'hlt2).toNat : Nat) : Int) < 48 := by assumption
              have h' : (((s[k]'hlt2).toNat : Nat) : Int) ≤ 57 := by assumption
              have hB := HK.out
              go_roundw
              case rel => exact ⟨k + 1, _, by omega, rfl, by go_num, fun j hj => by
                by_cases e : j < k
                · exact HA.out j e
                · obtain rfl : j = k := by omega
                  omega, by first | trivial | rfl⟩
              case measure => simp [intOf]; omega
          · obtain rfl : k = s.size := by omega
            have HB := Lib.hid (mag_yes (neg := false) (t := s) hpos (by omega) (fun _ => ⟨by omega, rfl⟩) (fun j hj => HA.out j (by omega)))
            go_wp2
            go_ret2
            exact ⟨⟨_, by rw [HN.out, HB.out]; simp; rfl⟩, rfl⟩
  · have hN := numL_neg (s := s) hp (by rw [← hs0]; simpa using hn)
    have hsz : (s.extract 1 s.size).size = s.size - 1 := by rw [ByteArray.size_extract]; omega
    clear hs0 h0
    have HN := Lib.hid hN
    clear hN
    by_cases z : (s.size - 1) = 0
    · have hz : ((((s.size - 1) : Nat) : Int) == 0) = true := beq_iff_eq.2 (by omega)
      have HB := Lib.hid (mag_bad (neg := true) (t := (s.extract 1 s.size)) (.inl (by omega)))
      clear z hsz
      go_enter Tryz.func58, Tryz.ntmps58
      go_wp2
      go_ret2
      exact ⟨⟨0, by rw [HN.out, HB.out]; simp⟩, rfl⟩
    have hz : ((((s.size - 1) : Nat) : Int) == 0) = false := beq_eq_false_iff_ne.2 (by omega)
    by_cases b : 17 < (s.size - 1)
    · have hb : decide (17 < (((s.size - 1) : Nat) : Int)) = true := decide_eq_true (by omega)
      have HB := Lib.hid (mag_bad (neg := true) (t := (s.extract 1 s.size)) (.inr (.inl (by omega))))
      clear b hsz
      go_enter Tryz.func58, Tryz.ntmps58
      go_wp2
      go_ret2
      exact ⟨⟨0, by rw [HN.out, HB.out]; simp⟩, rfl⟩
    have hb : decide (17 < (((s.size - 1) : Nat) : Int)) = false := decide_eq_false (by omega)
    have hpos : 0 < (s.extract 1 s.size).size := by omega
    have hk0 := kbyt_eq (s.extract 1 s.size) 0 hpos
    cases c : (((((s.extract 1 s.size)[0]'hpos).toNat : Nat) : Int) == 48)
    · have HH := Lib.hid (show kbyt (s.extract 1 s.size) 0 ≠ 48 by rw [← hk0]; simpa using c)
      clear hk0
      go_enter Tryz.func58, Tryz.ntmps58
      go_wp2
      go_loopw [5, 6] (fun n i wr => ∃ (k : Nat) (m : Int), k ≤ (s.size - 1) ∧ n = .int .i64 m ∧ i = .int .i64 k ∧ (∀ j, j < k → 48 ≤ kbyt (s.extract 1 s.size) j ∧ kbyt (s.extract 1 s.size) j ≤ 57) ∧ wr = w) (fun _ i _ => (s.size - 1) - (intOf i).toNat)
      case atStart => exact ⟨0, 0, by omega, rfl, rfl, fun j h => by omega, rfl⟩
      case round =>
        obtain ⟨k, m, hk, rfl, rfl, hall, rfl⟩ := hrel
        have HA := Lib.hid hall
        clear hall
        by_cases hlt : k < (s.size - 1)
        · have hlt2 : k < (s.extract 1 s.size).size := by omega
          have HK := Lib.hid (kbyt_eq (s.extract 1 s.size) k hlt2)
          have hcc : (((s.extract 1 s.size)[k]'hlt2).toNat : Int) ≤ 255 := by have := ((s.extract 1 s.size)[k]'hlt2).toNat_lt; omega
          go_wp2
          · have h : ((((s.extract 1 s.size)[k]'hlt2).toNat : Nat) : Int) < 48 := by assumption
            have HB := Lib.hid (mag_dig (neg := true) (t := (s.extract 1 s.size)) hlt2 (.inl (by rw [← HK.out]; exact h)))
            go_ret2
            exact ⟨⟨0, by rw [HN.out, HB.out]; simp⟩, rfl⟩
          · have h : 57 < ((((s.extract 1 s.size)[k]'hlt2).toNat : Nat) : Int) := by assumption
            have HB := Lib.hid (mag_dig (neg := true) (t := (s.extract 1 s.size)) hlt2 (.inr (by rw [← HK.out]; exact h)))
            go_ret2
            exact ⟨⟨0, by rw [HN.out, HB.out]; simp⟩, rfl⟩
          · have h : ¬ ((((s.extract 1 s.size)[k]'hlt2).toNat : Nat) : Int) < 48 := by assumption
            have h' : ((((s.extract 1 s.size)[k]'hlt2).toNat : Nat) : Int) ≤ 57 := by assumption
            have hB := HK.out
            go_roundw
            case rel => exact ⟨k + 1, _, by omega, rfl, by go_num, fun j hj => by
              by_cases e : j < k
              · exact HA.out j e
              · obtain rfl : j = k := by omega
                omega, by first | trivial | rfl⟩
            case measure => simp [intOf]; omega
        · obtain rfl : k = (s.size - 1) := by omega
          have HB := Lib.hid (mag_yes (neg := true) (t := (s.extract 1 s.size)) hpos (by omega) (fun e => absurd e HH.out) (fun j hj => HA.out j (by omega)))
          go_wp2
          go_ret2
          exact ⟨⟨_, by rw [HN.out, HB.out]; simp; rfl⟩, rfl⟩
    · have HH := Lib.hid (show kbyt (s.extract 1 s.size) 0 = 48 by rw [← hk0]; simpa using c)
      clear hk0
      by_cases d : 1 < (s.size - 1)
      · have hd : decide (1 < (((s.size - 1) : Nat) : Int)) = true := decide_eq_true (by omega)
        have HB := Lib.hid (mag_bad (neg := true) (t := (s.extract 1 s.size)) (.inr (.inr ⟨hpos, HH.out, .inl (by omega)⟩)))
        clear d hsz
        go_enter Tryz.func58, Tryz.ntmps58
        go_wp2
        go_ret2
        exact ⟨⟨0, by rw [HN.out, HB.out]; simp⟩, rfl⟩
      · have hd : decide (1 < (((s.size - 1) : Nat) : Int)) = false := decide_eq_false (by omega)
        have HB := Lib.hid (mag_bad (neg := true) (t := (s.extract 1 s.size)) (.inr (.inr ⟨hpos, HH.out, .inr rfl⟩)))
        clear d hsz
        go_enter Tryz.func58, Tryz.ntmps58
        go_wp2
        go_ret2
        exact ⟨⟨0, by rw [HN.out, HB.out]; simp⟩, rfl⟩
end Go.Proofs.YtfmhhckkpenldaaGreatDoor
/- The reference's pieces of a text. -/
namespace Go.Proofs.YtfmhhckkpenldaaGreatDoor
open Go.RowKit
def encP (x : List UInt8) : List Value := [.string ⟨x.toArray⟩]
theorem encP_len (x : List UInt8) : (encP x).length = 1 := rfl
theorem infoStr : (Tryz.prog.info? 9).map (fun i => (i.zero, i.size, i.bytes)) = some (some (.string ⟨#[]⟩), 1, 16) := by kernel_rfl
/-- the piece that is over at k -/
theorem piece_at (s : ByteArray) (k : Nat) (hk : k ≤ s.size) : s.extract (k - (cutSt 32 (s.data.toList.take k)).2.length) k = ⟨((cutSt 32 (s.data.toList.take k)).2).toArray⟩ := by
  have ht := cutSt_tail 32 (s.data.toList.take k)
  have hlen : (s.data.toList.take k).length = k := by
    rw [List.length_take]
    have : s.data.toList.length = s.size := by rw [Array.length_toList]; rfl
    omega
  rw [hlen] at ht
  rw [Lib.extract_eq]
  congr 2
  rw [← List.drop_take]
  exact ht.2.symm
theorem kget (s : ByteArray) (k : Nat) (_h : k < s.size) (h2 : k < s.data.toList.length) : s.data.toList[k] = s[k] := by
  simp [Array.getElem_toList]; rfl
set_option maxRecDepth 100000 in
set_option maxHeartbeats 2000000 in
theorem pieces_any (s : ByteArray) (w : World) (hs : s.size ≤ 1048576) :
    Calls Tryz.prog 57 #[.string s, .int .u8 32] w fun e w' => ∃ v, e = .returned v ∧ w'.ownsRow w.heap.size 9 1 v (pieces 32 s.data.toList).length ((pieces 32 s.data.toList).flatMap encP) ∧ Below w.heap.size w w' := by
  obtain ⟨i0, hi, hz0, hz1, hz2⟩ := info_parts infoStr
  have HI := Lib.hid (⟨hi, hz0, hz1, hz2⟩ : _ ∧ _ ∧ _ ∧ _)
  clear hi hz0 hz1 hz2
  have hll : s.data.toList.length = s.size := by rw [Array.length_toList]; rfl
  go_enter Tryz.func57, Tryz.ntmps57
  go_wp2
  go_loopw [5, 6, 7] (fun v f i wr => ∃ (k : Nat) (D : List (List UInt8)), k ≤ s.size + 1 ∧ i = .int .i64 k ∧ (k ≤ s.size → f = .int .i64 ((k - (cutSt 32 (s.data.toList.take k)).2.length : Nat) : Int) ∧ D = (cutSt 32 (s.data.toList.take k)).1) ∧ (k = s.size + 1 → ∃ m : Int, f = .int .i64 m ∧ D = pieces 32 s.data.toList) ∧ D.length ≤ k ∧ wr.ownsRow w.heap.size 9 1 v D.length (D.flatMap encP) ∧ Below w.heap.size w wr) (fun _ _ i _ => s.size + 1 - (intOf i).toNat)
  case atStart =>
    refine ⟨0, [], by omega, rfl, fun _ => ⟨rfl, rfl⟩, fun h => by omega, by simp, ?_, (Below.refl _ _).alloc (Nat.le_refl _) _⟩
    exact own_of_blk (base := w.heap.size) (n := 0) (k := 1) (xs := []) (Blk.new w 9 #[]) (Nat.le_refl _) (Nat.zero_le _) rfl rfl
  case round =>
    obtain ⟨k, D, hk, rfl, hle, hge, hDl, hown, hb⟩ := hrel
    by_cases hks : k ≤ s.size
    · obtain ⟨rfl, hD⟩ := hle hks
      have HP := Lib.hid (piece_at s k hks)
      have hcl := (cutSt_tail 32 (s.data.toList.take k)).1
      rw [List.length_take, hll] at hcl
      have hf1 : k - (cutSt 32 (s.data.toList.take k)).2.length ≤ k := by omega
      generalize hfd : k - (cutSt 32 (s.data.toList.take k)).2.length = fr at *
      have HF := Lib.hid hfd
      have HD := Lib.hid hD
      clear hfd hle hge hD hcl
      by_cases hke : k = s.size
      · have e1 : ((k : Int) == (s.size : Int)) = true := by rw [hke]; simp
        have HDP := Lib.hid (show pieces 32 s.data.toList = D ++ [(cutSt 32 (s.data.toList.take k)).2] by
          rw [HD.out, hke, List.take_of_length_le (by omega)]; rfl)
        have hcut := HDP
        have HKE := Lib.hid hke
        clear hke
        have hown1 : (wr.alloc (.cells #[.string (s.extract fr k)] 9)).ownsRow w.heap.size 9 1 u5 D.length (D.flatMap encP) := own_kept hown ((Below.refl _ _).alloc (Nat.le_refl _) _)
        have hnew := new_cells wr [.string (s.extract fr k)] 9
        have hbs := hb.size
        have b1 : (fr : Int) ≤ k := by omega
        have b2 : (k : Int) ≤ s.size := by omega
        have HC := Lib.hid hcut
        clear hcut
        go_wp2_with (at_builtin; refine wpList_append_own _ rfl (.tmp 26) (.tmp 31) 61 rfl w.heap.size 9 i0 _ 1 16 Tryz.underlying61 HI.out.1 HI.out.2.1 HI.out.2.2.1 HI.out.2.2.2 rfl (by decide) u5 D.length (D.flatMap encP) rfl hown1 ⟨wr.heap.size, 0, none⟩ 1 1 [.string (s.extract fr k)] rfl rfl hnew (by simp [Value.oneCell']) (by unfold maxLen; omega) (by omega) (by simp; omega) ?_; intro v' w2 hown2 hgrow _)
        have hb2 := (hb.alloc hbs (.cells #[.string (s.extract fr k)] 9)).grown hgrow (by simp; omega) (fun j hj => (hown.lt j hj).1)
        have hown3 : w2.ownsRow w.heap.size 9 1 v' (D ++ [(cutSt 32 (s.data.toList.take k)).2]).length ((D ++ [(cutSt 32 (s.data.toList.take k)).2]).flatMap encP) := by
          rw [HP.out] at hown2
          simpa [List.flatMap_append, encP] using hown2
        go_roundw
        case rel =>
          have hke := HKE.out
          exact ⟨k + 1, D ++ [(cutSt 32 (s.data.toList.take k)).2], by omega, by go_num, fun h => by have := HKE.out; omega, fun _ => ⟨_, rfl, HDP.out.symm⟩, by simp; omega, hown3, hb2⟩
        case measure => simp [intOf]; omega
      · have hlt : k < s.size := by omega
        have e1 : ((k : Int) == (s.size : Int)) = false := beq_eq_false_iff_ne.2 (by omega)
        have hkt := cutSt_take 32 s.data.toList k (by omega)
        rw [kget s k hlt (by omega)] at hkt
        cases hc : ((((s[k]'hlt).toNat : Nat) : Int) == 32)
        · rw [if_neg (by
            intro e
            rw [e] at hc
            simp at hc)] at hkt
          have HK := Lib.hid hkt
          clear hkt
          go_wp2
          go_roundw
          case rel =>
            have hf := HF.out
            exact ⟨k + 1, D, by omega, by go_num, fun _ => ⟨by rw [HK.out]; simp; omega, by rw [HK.out]; exact HD.out⟩, fun h => by omega, by omega, hown, hb⟩
          case measure => simp [intOf]; omega
        · rw [if_pos (by
            have := beq_iff_eq.1 hc
            apply UInt8.toNat_inj.1
            simp; omega)] at hkt
          have hcut := hkt
          clear hkt
          have hown1 : (wr.alloc (.cells #[.string (s.extract fr k)] 9)).ownsRow w.heap.size 9 1 u5 D.length (D.flatMap encP) := own_kept hown ((Below.refl _ _).alloc (Nat.le_refl _) _)
          have hnew := new_cells wr [.string (s.extract fr k)] 9
          have hbs := hb.size
          have b1 : (fr : Int) ≤ k := by omega
          have b2 : (k : Int) ≤ s.size := by omega
          have HC := Lib.hid hcut
          clear hcut
          go_wp2_with (at_builtin; refine wpList_append_own _ rfl (.tmp 26) (.tmp 31) 61 rfl w.heap.size 9 i0 _ 1 16 Tryz.underlying61 HI.out.1 HI.out.2.1 HI.out.2.2.1 HI.out.2.2.2 rfl (by decide) u5 D.length (D.flatMap encP) rfl hown1 ⟨wr.heap.size, 0, none⟩ 1 1 [.string (s.extract fr k)] rfl rfl hnew (by simp [Value.oneCell']) (by unfold maxLen; omega) (by omega) (by simp; omega) ?_; intro v' w2 hown2 hgrow _)
          have hb2 := (hb.alloc hbs (.cells #[.string (s.extract fr k)] 9)).grown hgrow (by simp; omega) (fun j hj => (hown.lt j hj).1)
          have hown3 : w2.ownsRow w.heap.size 9 1 v' (D ++ [(cutSt 32 (s.data.toList.take k)).2]).length ((D ++ [(cutSt 32 (s.data.toList.take k)).2]).flatMap encP) := by
            rw [HP.out] at hown2
            simpa [List.flatMap_append, encP] using hown2
          go_roundw
          case rel =>
            exact ⟨k + 1, D ++ [(cutSt 32 (s.data.toList.take k)).2], by omega, by go_num, fun _ => ⟨by rw [HC.out]; simp, by rw [HC.out, HD.out]⟩, fun h => by omega, by simp; omega, hown3, hb2⟩
          case measure => simp [intOf]; omega
    · obtain rfl : k = s.size + 1 := by omega
      obtain ⟨m, rfl, rfl⟩ := hge rfl
      clear hle hge
      go_wp2
      go_ret
      exact ⟨_, rfl, hown, hb⟩
end Go.Proofs.YtfmhhckkpenldaaGreatDoor
/- The reference's rows and steps. -/
namespace Go.Proofs.YtfmhhckkpenldaaGreatDoor
open Go.RowKit
theorem numL_space {l : List UInt8} (h : (32 : UInt8) ∈ l) : numL l = false := by
  rw [Bool.eq_false_iff]
  intro hm
  have hd : ∀ m : List UInt8, digL m = true → (32 : UInt8) ∉ m := fun m hm h32 => by
    have := List.all_eq_true.1 hm 32 h32
    simp at this
  unfold numL at hm
  by_cases hn : negL l = true
  · rw [if_pos hn] at hm
    obtain ⟨r, rfl⟩ := negL_iff.1 hn
    have := (magOk_iff.1 hm).2.2.2
    simp only [List.tail_cons] at this
    rcases List.mem_cons.1 h with e | e
    · exact absurd e (by decide)
    · exact hd r this e
  · rw [if_neg hn] at hm
    exact hd l (magOk_iff.1 hm).2.2.2 h
set_option maxHeartbeats 2000000 in
theorem l9Row_any (s : ByteArray) (w : World) (hs : s.size ≤ 1048576) :
    Calls Tryz.prog 39 #[.string s] w fun e w' => e = .returned (.bool (rowG s)) ∧ Below w.heap.size w w' := by
  have hge := Lib.indexByte_ge s.data.toList 32
  have hP := fun W => pieces_any s W hs
  by_cases h2 : (pieces 32 s.data.toList).length = 2
  · have hidx : ¬ Lib.indexByte s.data.toList 32 < 0 := fun h => by have := pieces_miss h; omega
    obtain ⟨i, hi⟩ : ∃ i : Nat, Lib.indexByte s.data.toList 32 = (i : Int) := ⟨(Lib.indexByte s.data.toList 32).toNat, by omega⟩
    have hnm := (pieces_two hi).1 h2
    have hp := pieces_are hi hnm
    have hit : (Lib.indexByte s.data.toList 32).toNat = i := by omega
    have he : (⟨(s.data.toList.take i).toArray⟩ : ByteArray) = s.extract 0 i := by rw [Lib.extract_eq]; simp
    have hR : rowG s = (keyB ⟨(s.data.toList.take i).toArray⟩ && numL (s.data.toList.drop (i + 1))) := by unfold rowG; rw [if_neg hidx, hit, he]
    have hsz1 : (⟨(s.data.toList.take i).toArray⟩ : ByteArray).size ≤ maxLen := by rw [he, ByteArray.size_extract]; unfold maxLen; omega
    have hsz2 : (⟨(s.data.toList.drop (i + 1)).toArray⟩ : ByteArray).size ≤ 1073741824 := by
      have e2 : (⟨(s.data.toList.drop (i + 1)).toArray⟩ : ByteArray).size = (s.data.toList.drop (i + 1)).length := List.size_toArray
      have e3 : s.data.toList.length = s.size := by rw [Array.length_toList]; rfl
      rw [e2, List.length_drop]; omega
    rw [hp] at hP
    have HR := Lib.hid hR
    have HP := Lib.hid hP
    have hNum := fun W => l11Num_any ⟨(s.data.toList.drop (i + 1)).toArray⟩ W hsz2
    have hKey := fun W => specKeyOk_any ⟨(s.data.toList.take i).toArray⟩ W hsz1
    have hdl : (⟨(s.data.toList.drop (i + 1)).toArray⟩ : ByteArray).data.toList = s.data.toList.drop (i + 1) := rfl
    rw [hdl] at hNum
    have HPr : ∀ W, Calls Tryz.prog 57 #[.string s, .int .u8 32] W fun e w' => ∃ b o c, e = .returned (.slice (some ⟨b, o, none⟩) 2 c) ∧ w'.cell? ⟨b, o, none⟩ = some (.string ⟨(s.data.toList.take i).toArray⟩) ∧ w'.cell? ⟨b, o + 1, none⟩ = some (.string ⟨(s.data.toList.drop (i + 1)).toArray⟩) ∧ Below W.heap.size W w' := fun W => (HP.out W).mono fun e w' h => by
      obtain ⟨v, rfl, hown, hb⟩ := h
      obtain ⟨A, c, rfl, _, _, hS⟩ := Sl.of_own encP_len hown
      obtain ⟨b, o, rfl, _, hc⟩ := hS (by simp)
      exact ⟨b, o, c, rfl, by simpa [encP] using hc 0 0 _ rfl (by omega), by simpa [encP] using hc 1 0 _ rfl (by omega), hb⟩
    generalize (⟨(s.data.toList.drop (i + 1)).toArray⟩ : ByteArray) = n at *
    generalize (⟨(s.data.toList.take i).toArray⟩ : ByteArray) = k at *
    generalize numL (s.data.toList.drop (i + 1)) = nb at *
    generalize keyB k = kb at *
    clear hP hp h2 hge hidx hi hnm hit he hR hsz1 hsz2 hdl HP
    cases nb
    · go_enter Tryz.func39, Tryz.ntmps39
      go_wp2_with (first
        | (go_at_call 57; refine (HPr _).mono ?_; rintro e w1 ⟨b, o, c, rfl, c0, c1, hb⟩)
        | (go_at_call 58; refine (hNum _).mono ?_; rintro e w2 ⟨⟨m, rfl⟩, rfl⟩))
      go_ret
      exact ⟨ret_bool (by rw [HR.out]; simp), hb⟩
    · go_enter Tryz.func39, Tryz.ntmps39
      go_wp2_with (first
        | (go_at_call 57; refine (HPr _).mono ?_; rintro e w1 ⟨b, o, c, rfl, c0, c1, hb⟩)
        | (go_at_call 58; refine (hNum _).mono ?_; rintro e w2 ⟨⟨m, rfl⟩, rfl⟩)
        | (go_at_call 45; refine (hKey _).mono ?_; rintro e w3 ⟨rfl, rfl⟩))
      go_ret
      exact ⟨ret_bool (by rw [HR.out]; simp), hb⟩
  · have hR : rowG s = false := by
      unfold rowG
      by_cases hidx : Lib.indexByte s.data.toList 32 < 0
      · rw [if_pos hidx]
      · rw [if_neg hidx]
        obtain ⟨i, hi⟩ : ∃ i : Nat, Lib.indexByte s.data.toList 32 = (i : Int) := ⟨(Lib.indexByte s.data.toList 32).toNat, by omega⟩
        have hit : (Lib.indexByte s.data.toList 32).toNat = i := by omega
        have hm : (32 : UInt8) ∈ s.data.toList.drop (i + 1) := Classical.byContradiction fun hn => h2 ((pieces_two hi).2 hn)
        rw [hit, numL_space hm]; simp
    have hn2 : (((pieces 32 s.data.toList).length : Int) != 2) = true := by simp; omega
    have HR := Lib.hid hR
    have HPr : ∀ W, Calls Tryz.prog 57 #[.string s, .int .u8 32] W fun e w' => ∃ A c, e = .returned (.slice A (pieces 32 s.data.toList).length c) ∧ Below W.heap.size W w' := fun W => (hP W).mono fun e w' h => by
      obtain ⟨v, rfl, hown, hb⟩ := h
      obtain ⟨A, c, rfl, _, _, _⟩ := Sl.of_own encP_len hown
      exact ⟨A, c, rfl, hb⟩
    generalize (pieces 32 s.data.toList).length = n at *
    clear hP hge h2 hR
    go_enter Tryz.func39, Tryz.ntmps39
    go_wp2_with (go_at_call 57; refine (HPr _).mono ?_; rintro e w1 ⟨A, c, rfl, hb⟩)
    go_ret
    exact ⟨ret_bool HR.out.symm, hb⟩
/-- a letter's step, its state one of the four -/
def stepS (st : Int) (x : Let) : Int := if st = 0 then idleS x else if st = 1 then rowsS x else 3
end Go.Proofs.YtfmhhckkpenldaaGreatDoor
