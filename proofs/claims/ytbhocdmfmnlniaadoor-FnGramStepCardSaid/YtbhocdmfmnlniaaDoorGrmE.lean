/- The reference's numerals, pieces and words. -/
import Derived.Test.YtbhocdmfmnlniaaDoorGrmB
namespace Go.Proofs.YtbhocdmfmnlniaaDoor
open Go.RowKit
set_option maxRecDepth 100000 in
set_option maxHeartbeats 2000000 in
theorem code_any (c : Nat) (w : World) (hc : c ≤ 6) :
    Calls Tryd.prog 32 #[.int .i64 c] w fun e w' => e = .returned (.string (codeN c)) ∧ Below w.heap.size w w' := by
  rcases (show c = 0 ∨ c = 1 ∨ c = 2 ∨ c = 3 ∨ c = 4 ∨ c = 5 ∨ c = 6 by omega) with rfl | rfl | rfl | rfl | rfl | rfl | rfl
  all_goals
    go_enter Tryd.func32, Tryd.ntmps32
    go_wp2
    go_ret
    exact ⟨rfl, (Below.refl _ _).alloc (Nat.le_refl _) _⟩
set_option maxHeartbeats 2000000 in
theorem word_any (s : ByteArray) (w : World) :
    Calls Tryd.prog 33 #[.string s] w fun e w' => e = .returned (.bool (failW s)) ∧ Below w.heap.size w w' := by
  go_enter Tryd.func33, Tryd.ntmps33
  go_wp2
  go_loopw [3] (fun i wr => ∃ k : Nat, 1 ≤ k ∧ k ≤ 7 ∧ i = .int .i64 k ∧ (∀ j, 1 ≤ j → j < k → ((codeN j).toList == s.toList) = false) ∧ Below w.heap.size w wr) (fun i _ => 7 - (intOf i).toNat)
  case atStart => exact ⟨1, by omega, by omega, rfl, fun j h h2 => by omega, Below.refl _ _⟩
  case round =>
    obtain ⟨k, hk1, hk, rfl, hall, hb⟩ := hrel
    have HA := Lib.hid hall
    clear hall
    by_cases h7 : k ≤ 6
    · cases hc : ((codeN k).toList == s.toList)
      · go_wp2_with (go_at_call 32; refine (code_any k _ h7).mono ?_; rintro e w' ⟨rfl, hb2⟩)
        go_roundw
        case rel => exact ⟨k + 1, by omega, by omega, by go_num, fun j h1 h2 => by
          by_cases e : j < k
          · exact HA.out j h1 e
          · obtain rfl : j = k := by omega
            exact hc, bthen hb hb2⟩
        case measure => simp [intOf]; omega
      · go_wp2_with (go_at_call 32; refine (code_any k _ h7).mono ?_; rintro e w' ⟨rfl, hb2⟩)
        go_ret
        exact ⟨ret_bool (failW_yes hk1 h7 hc).symm, bthen hb hb2⟩
    · obtain rfl : k = 7 := by omega
      go_wp2
      go_ret
      exact ⟨ret_bool (failW_no (fun j h1 h2 => HA.out j h1 h2)).symm, hb⟩
theorem kb_get (t : ByteArray) (j : Nat) (h : j < t.size) : ∃ c, t.data.toList[j]? = some c ∧ kbyt t j = (c.toNat : Int) := by
  refine ⟨t.data[j]'h, by simp [Array.getElem?_toList, Array.getElem?_eq_getElem (show j < t.data.size from h)], ?_⟩
  unfold kbyt; rw [Array.getD_eq_getD_getElem?, Array.getElem?_eq_getElem (show j < t.data.size from h)]; rfl
theorem tl_len (t : ByteArray) : t.data.toList.length = t.size := by rw [Array.length_toList]; rfl
theorem mag_bad {neg : Bool} {t : ByteArray} (h : t.size = 0 ∨ 17 < t.size ∨ (0 < t.size ∧ kbyt t 0 = 48 ∧ (1 < t.size ∨ neg = true))) : magOk neg t.data.toList = false := by
  rw [Bool.eq_false_iff]
  intro hm
  obtain ⟨h1, h2, h3, _⟩ := magOk_iff.1 hm
  rw [tl_len] at h2
  rcases h with h | h | ⟨h0, h, h4⟩
  · apply h1; exact List.eq_nil_of_length_eq_zero (by rw [tl_len]; exact h)
  · omega
  · obtain ⟨c, hc, hk⟩ := kb_get t 0 h0
    rw [hk] at h
    have hc48 : c = 48 := by apply UInt8.toNat_inj.1; simp; omega
    subst hc48
    obtain ⟨g1, g2⟩ := h3 (by rw [List.head?_eq_getElem?]; exact hc)
    rw [tl_len] at g1
    rcases h4 with h4 | h4
    · omega
    · rw [g2] at h4; cases h4
theorem mag_dig {neg : Bool} {t : ByteArray} {j : Nat} (hj : j < t.size) (h : kbyt t j < 48 ∨ 57 < kbyt t j) : magOk neg t.data.toList = false := by
  rw [Bool.eq_false_iff]
  intro hm
  obtain ⟨_, _, _, h4⟩ := magOk_iff.1 hm
  obtain ⟨c, hc, hk⟩ := kb_get t j hj
  unfold digL at h4
  have := List.all_eq_true.1 h4 c (List.mem_of_getElem? hc)
  simp at this
  omega
theorem mag_yes {neg : Bool} {t : ByteArray} (h0 : 0 < t.size) (h17 : t.size ≤ 17) (hh : kbyt t 0 = 48 → t.size ≤ 1 ∧ neg = false) (h : ∀ j, j < t.size → 48 ≤ kbyt t j ∧ kbyt t j ≤ 57) : magOk neg t.data.toList = true := by
  refine magOk_iff.2 ⟨fun e => ?_, by rw [tl_len]; exact h17, fun e => ?_, ?_⟩
  · have := tl_len t; rw [e] at this; simp at this; omega
  · obtain ⟨c, hc, hk⟩ := kb_get t 0 h0
    rw [List.head?_eq_getElem?, hc] at e
    injection e with e; subst e
    rw [tl_len]; exact hh (by rw [hk]; rfl)
  · unfold digL
    rw [List.all_eq_true]
    intro c hc
    obtain ⟨j, hj⟩ := List.getElem?_of_mem hc
    have hlt : j < t.size := by have := (List.getElem?_eq_some_iff.1 hj).1; rwa [tl_len] at this
    obtain ⟨c', hc', hk⟩ := kb_get t j hlt
    rw [hj] at hc'; injection hc' with e; subst e
    have := h j hlt
    simp; omega
theorem numL_neg {s : ByteArray} (h0 : 0 < s.size) (h : kbyt s 0 = 45) : numL s.data.toList = magOk true (s.extract 1 s.size).data.toList := by
  obtain ⟨c, hc, hk⟩ := kb_get s 0 h0
  have hn : negL s.data.toList = true := by
    unfold negL; rw [List.head?_eq_getElem?, hc]
    have : c = 45 := by apply UInt8.toNat_inj.1; simp; omega
    subst this; rfl
  unfold numL; rw [if_pos hn, ext_drop]; simp
theorem numL_pos {s : ByteArray} (h : s.size = 0 ∨ kbyt s 0 ≠ 45) : numL s.data.toList = magOk false s.data.toList := by
  have hn : ¬ negL s.data.toList = true := by
    intro hn
    obtain ⟨r, hr⟩ := negL_iff.1 hn
    have hl := tl_len s
    rw [hr] at hl; simp at hl
    obtain ⟨c, hc, hk⟩ := kb_get s 0 (by omega)
    rw [hr] at hc; simp at hc; subst hc
    rcases h with h | h
    · omega
    · exact h (by rw [hk]; rfl)
  unfold numL; rw [if_neg hn]
set_option maxRecDepth 100000 in
set_option maxHeartbeats 4000000 in
theorem l11Num_any (s : ByteArray) (w : World) (hs : s.size ≤ 1073741824) :
    Calls Tryd.prog 45 #[.string s] w fun e w' => (∃ n, e = .returned (.tuple #[.int .i64 n, .bool (numL s.data.toList)])) ∧ w = w' := by
  by_cases h0 : s.size = 0
  · have h0' : decide (0 < (s.size : Int)) = false := decide_eq_false (by omega)
    have hz : ((s.size : Int) == 0) = true := beq_iff_eq.2 (by omega)
    have HN := Lib.hid (numL_pos (s := s) (.inl h0))
    have HB := Lib.hid (mag_bad (neg := false) (t := s) (.inl h0))
    clear h0
    go_enter Tryd.func45, Tryd.ntmps45
    go_wp2
    go_ret2
    exact ⟨⟨0, by rw [HN.out, HB.out]; simp⟩, rfl⟩
  have h0' : decide (0 < (s.size : Int)) = true := decide_eq_true (by omega)
  have h1 : 1 ≤ s.size := by omega
  have hp : 0 < s.size := by omega
  have hs0 := kbyt_eq s 0 hp
  cases hn : (((s[0]'hp).toNat : Int) == 45)
  · have hN := numL_pos (s := s) (.inr (by rw [← hs0]; simpa using hn))
    have hsz : s.size = s.size := rfl
    clear hs0 h0
    have HN := Lib.hid hN
    clear hN
    by_cases z : s.size = 0
    · have hz : (((s.size : Nat) : Int) == 0) = true := beq_iff_eq.2 (by omega)
      have HB := Lib.hid (mag_bad (neg := false) (t := s) (.inl (by omega)))
      clear z hsz
      go_enter Tryd.func45, Tryd.ntmps45
      go_wp2
      go_ret2
      exact ⟨⟨0, by rw [HN.out, HB.out]; simp⟩, rfl⟩
    have hz : (((s.size : Nat) : Int) == 0) = false := beq_eq_false_iff_ne.2 (by omega)
    by_cases b : 17 < s.size
    · have hb : decide (17 < ((s.size : Nat) : Int)) = true := decide_eq_true (by omega)
      have HB := Lib.hid (mag_bad (neg := false) (t := s) (.inr (.inl (by omega))))
      clear b hsz
      go_enter Tryd.func45, Tryd.ntmps45
      go_wp2
      go_ret2
      exact ⟨⟨0, by rw [HN.out, HB.out]; simp⟩, rfl⟩
    have hb : decide (17 < ((s.size : Nat) : Int)) = false := decide_eq_false (by omega)
    have hpos : 0 < s.size := by omega
    have hk0 := kbyt_eq s 0 hpos
    cases c : ((((s[0]'hpos).toNat : Nat) : Int) == 48)
    · have HH := Lib.hid (show kbyt s 0 ≠ 48 by rw [← hk0]; simpa using c)
      clear hk0
      go_enter Tryd.func45, Tryd.ntmps45
      go_wp2
      go_loopw [5, 6] (fun n i wr => ∃ (k : Nat) (m : Int), k ≤ s.size ∧ n = .int .i64 m ∧ i = .int .i64 k ∧ (∀ j, j < k → 48 ≤ kbyt s j ∧ kbyt s j ≤ 57) ∧ wr = w) (fun _ i _ => s.size - (intOf i).toNat)
      case atStart => exact ⟨0, 0, by omega, rfl, rfl, fun j h => by omega, rfl⟩
      case round =>
        obtain ⟨k, m, hk, rfl, rfl, hall, rfl⟩ := hrel
        have HA := Lib.hid hall
        clear hall
        by_cases hlt : k < s.size
        · have hlt2 : k < s.size := by omega
          have HK := Lib.hid (kbyt_eq s k hlt2)
          have hcc : ((s[k]'hlt2).toNat : Int) ≤ 255 := by have := (s[k]'hlt2).toNat_lt; omega
          go_wp2
          · have h : (((s[k]'hlt2).toNat : Nat) : Int) < 48 := by assumption
            have HB := Lib.hid (mag_dig (neg := false) (t := s) hlt2 (.inl (by rw [← HK.out]; exact h)))
            go_ret2
            exact ⟨⟨0, by rw [HN.out, HB.out]; simp⟩, rfl⟩
          · have h : 57 < (((s[k]'hlt2).toNat : Nat) : Int) := by assumption
            have HB := Lib.hid (mag_dig (neg := false) (t := s) hlt2 (.inr (by rw [← HK.out]; exact h)))
            go_ret2
            exact ⟨⟨0, by rw [HN.out, HB.out]; simp⟩, rfl⟩
          · have h : ¬ (((s[k]'hlt2).toNat : Nat) : Int) < 48 := by assumption
            have h' : (((s[k]'hlt2).toNat : Nat) : Int) ≤ 57 := by assumption
            have hB := HK.out
            go_roundw
            case rel => exact ⟨k + 1, _, by omega, rfl, by go_num, fun j hj => by
              by_cases e : j < k
              · exact HA.out j e
              · obtain rfl : j = k := by omega
                omega, by first | trivial | rfl⟩
            case measure => simp [intOf]; omega
        · obtain rfl : k = s.size := by omega
          have HB := Lib.hid (mag_yes (neg := false) (t := s) hpos (by omega) (fun e => absurd e HH.out) (fun j hj => HA.out j (by omega)))
          go_wp2
          go_ret2
          exact ⟨⟨_, by rw [HN.out, HB.out]; simp; rfl⟩, rfl⟩
    · have HH := Lib.hid (show kbyt s 0 = 48 by rw [← hk0]; simpa using c)
      clear hk0
      by_cases d : 1 < s.size
      · have hd : decide (1 < ((s.size : Nat) : Int)) = true := decide_eq_true (by omega)
        have HB := Lib.hid (mag_bad (neg := false) (t := s) (.inr (.inr ⟨hpos, HH.out, .inl (by omega)⟩)))
        clear d hsz
        go_enter Tryd.func45, Tryd.ntmps45
        go_wp2
        go_ret2
        exact ⟨⟨0, by rw [HN.out, HB.out]; simp⟩, rfl⟩
      · have hd : decide (1 < ((s.size : Nat) : Int)) = false := decide_eq_false (by omega)
        go_enter Tryd.func45, Tryd.ntmps45
        go_wp2
        go_loopw [5, 6] (fun n i wr => ∃ (k : Nat) (m : Int), k ≤ s.size ∧ n = .int .i64 m ∧ i = .int .i64 k ∧ (∀ j, j < k → 48 ≤ kbyt s j ∧ kbyt s j ≤ 57) ∧ wr = w) (fun _ i _ => s.size - (intOf i).toNat)
        case atStart => exact ⟨0, 0, by omega, rfl, rfl, fun j h => by omega, rfl⟩
        case round =>
          obtain ⟨k, m, hk, rfl, rfl, hall, rfl⟩ := hrel
          have HA := Lib.hid hall
          clear hall
          by_cases hlt : k < s.size
          · have hlt2 : k < s.size := by omega
            have HK := Lib.hid (kbyt_eq s k hlt2)
            have hcc : ((s[k]'hlt2).toNat : Int) ≤ 255 := by have := (s[k]'hlt2).toNat_lt; omega
            go_wp2
            · have h : (((s[k]'hlt2).toNat : Nat) : Int) < 48 := by assumption
              have HB := Lib.hid (mag_dig (neg := false) (t := s) hlt2 (.inl (by rw [← HK.out]; exact h)))
              go_ret2
              exact ⟨⟨0, by rw [HN.out, HB.out]; simp⟩, rfl⟩
            · have h : 57 < (((s[k]'hlt2).toNat : Nat) : Int) := by assumption
              have HB := Lib.hid (mag_dig (neg := false) (t := s) hlt2 (.inr (by rw [← HK.out]; exact h)))
              go_ret2
              exact ⟨⟨0, by rw [HN.out, HB.out]; simp⟩, rfl⟩
            · have h : ¬ (((s[k]'hlt2).toNat : Nat) : Int) < 48 := by assumption
              have h' : (((s[k]'hlt2).toNat : Nat) : Int) ≤ 57 := by assumption
              have hB := HK.out
              go_roundw
              case rel => exact ⟨k + 1, _, by omega, rfl, by go_num, fun j hj => by
                by_cases e : j < k
                · exact HA.out j e
                · obtain rfl : j = k := by omega
                  omega, by first | trivial | rfl⟩
              case measure => simp [intOf]; omega
          · obtain rfl : k = s.size := by omega
            have HB := Lib.hid (mag_yes (neg := false) (t := s) hpos (by omega) (fun _ => ⟨by omega, rfl⟩) (fun j hj => HA.out j (by omega)))
            go_wp2
            go_ret2
            exact ⟨⟨_, by rw [HN.out, HB.out]; simp; rfl⟩, rfl⟩
  · have hN := numL_neg (s := s) hp (by rw [← hs0]; simpa using hn)
    have hsz : (s.extract 1 s.size).size = s.size - 1 := by rw [ByteArray.size_extract]; omega
    clear hs0 h0
    have HN := Lib.hid hN
    clear hN
    by_cases z : (s.size - 1) = 0
    · have hz : ((((s.size - 1) : Nat) : Int) == 0) = true := beq_iff_eq.2 (by omega)
      have HB := Lib.hid (mag_bad (neg := true) (t := (s.extract 1 s.size)) (.inl (by omega)))
      clear z hsz
      go_enter Tryd.func45, Tryd.ntmps45
      go_wp2
      go_ret2
      exact ⟨⟨0, by rw [HN.out, HB.out]; simp⟩, rfl⟩
    have hz : ((((s.size - 1) : Nat) : Int) == 0) = false := beq_eq_false_iff_ne.2 (by omega)
    by_cases b : 17 < (s.size - 1)
    · have hb : decide (17 < (((s.size - 1) : Nat) : Int)) = true := decide_eq_true (by omega)
      have HB := Lib.hid (mag_bad (neg := true) (t := (s.extract 1 s.size)) (.inr (.inl (by omega))))
      clear b hsz
      go_enter Tryd.func45, Tryd.ntmps45
      go_wp2
      go_ret2
      exact ⟨⟨0, by rw [HN.out, HB.out]; simp⟩, rfl⟩
    have hb : decide (17 < (((s.size - 1) : Nat) : Int)) = false := decide_eq_false (by omega)
    have hpos : 0 < (s.extract 1 s.size).size := by omega
    have hk0 := kbyt_eq (s.extract 1 s.size) 0 hpos
    cases c : (((((s.extract 1 s.size)[0]'hpos).toNat : Nat) : Int) == 48)
    · have HH := Lib.hid (show kbyt (s.extract 1 s.size) 0 ≠ 48 by rw [← hk0]; simpa using c)
      clear hk0
      go_enter Tryd.func45, Tryd.ntmps45
      go_wp2
      go_loopw [5, 6] (fun n i wr => ∃ (k : Nat) (m : Int), k ≤ (s.size - 1) ∧ n = .int .i64 m ∧ i = .int .i64 k ∧ (∀ j, j < k → 48 ≤ kbyt (s.extract 1 s.size) j ∧ kbyt (s.extract 1 s.size) j ≤ 57) ∧ wr = w) (fun _ i _ => (s.size - 1) - (intOf i).toNat)
      case atStart => exact ⟨0, 0, by omega, rfl, rfl, fun j h => by omega, rfl⟩
      case round =>
        obtain ⟨k, m, hk, rfl, rfl, hall, rfl⟩ := hrel
        have HA := Lib.hid hall
        clear hall
        by_cases hlt : k < (s.size - 1)
        · have hlt2 : k < (s.extract 1 s.size).size := by omega
          have HK := Lib.hid (kbyt_eq (s.extract 1 s.size) k hlt2)
          have hcc : (((s.extract 1 s.size)[k]'hlt2).toNat : Int) ≤ 255 := by have := ((s.extract 1 s.size)[k]'hlt2).toNat_lt; omega
          go_wp2
          · have h : ((((s.extract 1 s.size)[k]'hlt2).toNat : Nat) : Int) < 48 := by assumption
            have HB := Lib.hid (mag_dig (neg := true) (t := (s.extract 1 s.size)) hlt2 (.inl (by rw [← HK.out]; exact h)))
            go_ret2
            exact ⟨⟨0, by rw [HN.out, HB.out]; simp⟩, rfl⟩
          · have h : 57 < ((((s.extract 1 s.size)[k]'hlt2).toNat : Nat) : Int) := by assumption
            have HB := Lib.hid (mag_dig (neg := true) (t := (s.extract 1 s.size)) hlt2 (.inr (by rw [← HK.out]; exact h)))
            go_ret2
            exact ⟨⟨0, by rw [HN.out, HB.out]; simp⟩, rfl⟩
          · have h : ¬ ((((s.extract 1 s.size)[k]'hlt2).toNat : Nat) : Int) < 48 := by assumption
            have h' : ((((s.extract 1 s.size)[k]'hlt2).toNat : Nat) : Int) ≤ 57 := by assumption
            have hB := HK.out
            go_roundw
            case rel => exact ⟨k + 1, _, by omega, rfl, by go_num, fun j hj => by
              by_cases e : j < k
              · exact HA.out j e
              · obtain rfl : j = k := by omega
                omega, by first | trivial | rfl⟩
            case measure => simp [intOf]; omega
        · obtain rfl : k = (s.size - 1) := by omega
          have HB := Lib.hid (mag_yes (neg := true) (t := (s.extract 1 s.size)) hpos (by omega) (fun e => absurd e HH.out) (fun j hj => HA.out j (by omega)))
          go_wp2
          go_ret2
          exact ⟨⟨_, by rw [HN.out, HB.out]; simp; rfl⟩, rfl⟩
    · have HH := Lib.hid (show kbyt (s.extract 1 s.size) 0 = 48 by rw [← hk0]; simpa using c)
      clear hk0
      by_cases d : 1 < (s.size - 1)
      · have hd : decide (1 < (((s.size - 1) : Nat) : Int)) = true := decide_eq_true (by omega)
        have HB := Lib.hid (mag_bad (neg := true) (t := (s.extract 1 s.size)) (.inr (.inr ⟨hpos, HH.out, .inl (by omega)⟩)))
        clear d hsz
        go_enter Tryd.func45, Tryd.ntmps45
        go_wp2
        go_ret2
        exact ⟨⟨0, by rw [HN.out, HB.out]; simp⟩, rfl⟩
      · have hd : decide (1 < (((s.size - 1) : Nat) : Int)) = false := decide_eq_false (by omega)
        have HB := Lib.hid (mag_bad (neg := true) (t := (s.extract 1 s.size)) (.inr (.inr ⟨hpos, HH.out, .inr rfl⟩)))
        clear d hsz
        go_enter Tryd.func45, Tryd.ntmps45
        go_wp2
        go_ret2
        exact ⟨⟨0, by rw [HN.out, HB.out]; simp⟩, rfl⟩
end Go.Proofs.YtbhocdmfmnlniaaDoor
