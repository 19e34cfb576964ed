import Derived.BigQuiet
import Derived.Laws.AppendOwnNone
import Derived.Test.YtpjkcmmmpgncmaaM06
import Derived.Test.YtpjkcmmmpgncmaaM32
import Derived.Test.YtpjkcmmmpgncmaaM05
import Derived.Test.YtpjkcmmmpgncmaaM01
/- The reference on texts: the word of a code, a numeral, the pieces of a text. (Turned from GrmE and GrmF for a seat without the door.) -/
namespace Go.Proofs.Ytpjkcmmmpgncmaa
open Go.RowKit
/-- the words of the codes, as texts -/
def wFine : ByteArray := ⟨#[102, 105, 110, 101]⟩
def wForm : ByteArray := ⟨#[102, 111, 114, 109]⟩
def wLate : ByteArray := ⟨#[108, 97, 116, 101]⟩
def wFull : ByteArray := ⟨#[102, 117, 108, 108]⟩
def wNone : ByteArray := ⟨#[110, 111, 110, 101]⟩
def wBad : ByteArray := ⟨#[98, 97, 100]⟩
def wOver : ByteArray := ⟨#[111, 118, 101, 114]⟩
def codeN (k : Nat) : ByteArray := match k with
  | 0 => wFine | 1 => wForm | 2 => wLate | 3 => wFull | 4 => wNone | 5 => wBad | 6 => wOver | _ => ⟨#[]⟩
theorem ext_drop (s : ByteArray) (i : Nat) : (s.extract i s.size).data.toList = s.data.toList.drop i := by
  have h := Lib.extract_eq s i s.size
  rw [h]
  simp only
  exact List.take_of_length_le (by rw [List.length_drop]; exact Nat.le_refl _)
set_option maxRecDepth 100000 in
set_option maxHeartbeats 2000000 in
theorem code_any (c : Nat) (w : World) (hc : c ≤ 6) :
    Calls Try.prog 188 #[.int .i64 c] w fun e w' => e = .returned (.string (codeN c)) ∧ Below w.heap.size w w' := by
  rcases (show c = 0 ∨ c = 1 ∨ c = 2 ∨ c = 3 ∨ c = 4 ∨ c = 5 ∨ c = 6 by omega) with rfl | rfl | rfl | rfl | rfl | rfl | rfl
  all_goals
    go_enter Try.func188, Try.ntmps188
    go_wp2
    go_ret
    exact ⟨rfl, (Below.refl _ _).alloc (Nat.le_refl _) _⟩

theorem kb_get (t : ByteArray) (j : Nat) (h : j < t.size) : ∃ c, t.data.toList[j]? = some c ∧ kbyt t j = (c.toNat : Int) := by
  refine ⟨t.data[j]'h, by simp [Array.getElem?_toList, Array.getElem?_eq_getElem (show j < t.data.size from h)], ?_⟩
  unfold kbyt; rw [Array.getD_eq_getD_getElem?, Array.getElem?_eq_getElem (show j < t.data.size from h)]; rfl
theorem tl_len (t : ByteArray) : t.data.toList.length = t.size := by rw [Array.length_toList]; rfl
theorem mag_bad {neg : Bool} {t : ByteArray} (h : t.size = 0 ∨ 17 < t.size ∨ (0 < t.size ∧ kbyt t 0 = 48 ∧ (1 < t.size ∨ neg = true))) : magOk neg t.data.toList = false := by
  rw [Bool.eq_false_iff]
  intro hm
  obtain ⟨h1, h2, h3, _⟩ := magOk_iff.1 hm
  rw [tl_len] at h2
  rcases h with h | h | ⟨h0, h, h4⟩
  · apply h1; exact List.eq_nil_of_length_eq_zero (by rw [tl_len]; exact h)
  · omega
  · obtain ⟨c, hc, hk⟩ := kb_get t 0 h0
    rw [hk] at h
    have hc48 : c = 48 := by apply UInt8.toNat_inj.1; simp; omega
    subst hc48
    obtain ⟨g1, g2⟩ := h3 (by rw [List.head?_eq_getElem?]; exact hc)
    rw [tl_len] at g1
    rcases h4 with h4 | h4
    · omega
    · rw [g2] at h4; cases h4
theorem mag_dig {neg : Bool} {t : ByteArray} {j : Nat} (hj : j < t.size) (h : kbyt t j < 48 ∨ 57 < kbyt t j) : magOk neg t.data.toList = false := by
  rw [Bool.eq_false_iff]
  intro hm
  obtain ⟨_, _, _, h4⟩ := magOk_iff.1 hm
  obtain ⟨c, hc, hk⟩ := kb_get t j hj
  unfold digL at h4
  have := List.all_eq_true.1 h4 c (List.mem_of_getElem? hc)
  simp at this
  omega
theorem mag_yes {neg : Bool} {t : ByteArray} (h0 : 0 < t.size) (h17 : t.size ≤ 17) (hh : kbyt t 0 = 48 → t.size ≤ 1 ∧ neg = false) (h : ∀ j, j < t.size → 48 ≤ kbyt t j ∧ kbyt t j ≤ 57) : magOk neg t.data.toList = true := by
  refine magOk_iff.2 ⟨fun e => ?_, by rw [tl_len]; exact h17, fun e => ?_, ?_⟩
  · have := tl_len t; rw [e] at this; simp at this; omega
  · obtain ⟨c, hc, hk⟩ := kb_get t 0 h0
    rw [List.head?_eq_getElem?, hc] at e
    injection e with e; subst e
    rw [tl_len]; exact hh (by rw [hk]; rfl)
  · unfold digL
    rw [List.all_eq_true]
    intro c hc
    obtain ⟨j, hj⟩ := List.getElem?_of_mem hc
    have hlt : j < t.size := by have := (List.getElem?_eq_some_iff.1 hj).1; rwa [tl_len] at this
    obtain ⟨c', hc', hk⟩ := kb_get t j hlt
    rw [hj] at hc'; injection hc' with e; subst e
    have := h j hlt
    simp; omega
theorem numL_neg {s : ByteArray} (h0 : 0 < s.size) (h : kbyt s 0 = 45) : numL s.data.toList = magOk true (s.extract 1 s.size).data.toList := by
  obtain ⟨c, hc, hk⟩ := kb_get s 0 h0
  have hn : negL s.data.toList = true := by
    unfold negL; rw [List.head?_eq_getElem?, hc]
    have : c = 45 := by apply UInt8.toNat_inj.1; simp; omega
    subst this; rfl
  unfold numL; rw [if_pos hn, ext_drop]; simp
theorem numL_pos {s : ByteArray} (h : s.size = 0 ∨ kbyt s 0 ≠ 45) : numL s.data.toList = magOk false s.data.toList := by
  have hn : ¬ negL s.data.toList = true := by
    intro hn
    obtain ⟨r, hr⟩ := negL_iff.1 hn
    have hl := tl_len s
    rw [hr] at hl; simp at hl
    obtain ⟨c, hc, hk⟩ := kb_get s 0 (by omega)
    rw [hr] at hc; simp at hc; subst hc
    rcases h with h | h
    · omega
    · exact h (by rw [hk]; rfl)
  unfold numL; rw [if_neg hn]
set_option maxRecDepth 100000 in
set_option maxHeartbeats 4000000 in
theorem l11Num_any (s : ByteArray) (w : World) (hs : s.size ≤ 1073741824) :
    Calls Try.prog 213 #[.string s] w fun e w' => (∃ n, e = .returned (.tuple #[.int .i64 n, .bool (numL s.data.toList)])) ∧ w = w' := by
  by_cases h0 : s.size = 0
  · have h0' : decide (0 < (s.size : Int)) = false := decide_eq_false (by omega)
    have hz : ((s.size : Int) == 0) = true := beq_iff_eq.2 (by omega)
    have HN := Lib.hid (numL_pos (s := s) (.inl h0))
    have HB := Lib.hid (mag_bad (neg := false) (t := s) (.inl h0))
    clear h0
    go_enter Try.func213, Try.ntmps213
    go_wp2
    go_ret2
    exact ⟨⟨0, by rw [HN.out, HB.out]; simp⟩, rfl⟩
  have h0' : decide (0 < (s.size : Int)) = true := decide_eq_true (by omega)
  have h1 : 1 ≤ s.size := by omega
  have hp : 0 < s.size := by omega
  have hs0 := kbyt_eq s 0 hp
  cases hn : (((s[0]'hp).toNat : Int) == 45)
  · have hN := numL_pos (s := s) (.inr (by rw [← hs0]; simpa using hn))
    have hsz : s.size = s.size := rfl
    clear hs0 h0
    have HN := Lib.hid hN
    clear hN
    by_cases z : s.size = 0
    · have hz : (((s.size : Nat) : Int) == 0) = true := beq_iff_eq.2 (by omega)
      have HB := Lib.hid (mag_bad (neg := false) (t := s) (.inl (by omega)))
      clear z hsz
      go_enter Try.func213, Try.ntmps213
      go_wp2
      go_ret2
      exact ⟨⟨0, by rw [HN.out, HB.out]; simp⟩, rfl⟩
    have hz : (((s.size : Nat) : Int) == 0) = false := beq_eq_false_iff_ne.2 (by omega)
    by_cases b : 17 < s.size
    · have hb : decide (17 < ((s.size : Nat) : Int)) = true := decide_eq_true (by omega)
      have HB := Lib.hid (mag_bad (neg := false) (t := s) (.inr (.inl (by omega))))
      clear b hsz
      go_enter Try.func213, Try.ntmps213
      go_wp2
      go_ret2
      exact ⟨⟨0, by rw [HN.out, HB.out]; simp⟩, rfl⟩
    have hb : decide (17 < ((s.size : Nat) : Int)) = false := decide_eq_false (by omega)
    have hpos : 0 < s.size := by omega
    have hk0 := kbyt_eq s 0 hpos
    cases c : ((((s[0]'hpos).toNat : Nat) : Int) == 48)
    · have HH := Lib.hid (show kbyt s 0 ≠ 48 by rw [← hk0]; simpa using c)
      clear hk0
      go_enter Try.func213, Try.ntmps213
      go_wp2
      go_loopw [5, 6] (fun n i wr => ∃ (k : Nat) (m : Int), k ≤ s.size ∧ n = .int .i64 m ∧ i = .int .i64 k ∧ (∀ j, j < k → 48 ≤ kbyt s j ∧ kbyt s j ≤ 57) ∧ wr = w) (fun _ i _ => s.size - (intOf i).toNat)
      case atStart => exact ⟨0, 0, by omega, rfl, rfl, fun j h => by omega, rfl⟩
      case round =>
        obtain ⟨k, m, hk, rfl, rfl, hall, rfl⟩ := hrel
        have HA := Lib.hid hall
        clear hall
        by_cases hlt : k < s.size
        · have hlt2 : k < s.size := by omega
          have HK := Lib.hid (kbyt_eq s k hlt2)
          have hcc : ((s[k]'hlt2).toNat : Int) ≤ 255 := by have := (s[k]'hlt2).toNat_lt; omega
          go_wp2
          · have h : (((s[k]'hlt2).toNat : Nat) : Int) < 48 := by assumption
            have HB := Lib.hid (mag_dig (neg := false) (t := s) hlt2 (.inl (by rw [← HK.out]; exact h)))
            go_ret2
            exact ⟨⟨0, by rw [HN.out, HB.out]; simp⟩, rfl⟩
          · have h : 57 < (((s[k]'hlt2).toNat : Nat) : Int) := by assumption
            have HB := Lib.hid (mag_dig (neg := false) (t := s) hlt2 (.inr (by rw [← HK.out]; exact h)))
            go_ret2
            exact ⟨⟨0, by rw [HN.out, HB.out]; simp⟩, rfl⟩
          · have h : ¬ (((s[k]'hlt2).toNat : Nat) : Int) < 48 := by assumption
            have h' : (((s[k]'hlt2).toNat : Nat) : Int) ≤ 57 := by assumption
            have hB := HK.out
            go_roundw
            case rel => exact ⟨k + 1, _, by omega, rfl, by go_num, fun j hj => by
              by_cases e : j < k
              · exact HA.out j e
              · obtain rfl : j = k := by omega
                omega, by first | trivial | rfl⟩
            case measure => simp [intOf]; omega
        · obtain rfl : k = s.size := by omega
          have HB := Lib.hid (mag_yes (neg := false) (t := s) hpos (by omega) (fun e => absurd e HH.out) (fun j hj => HA.out j (by omega)))
          go_wp2
          go_ret2
          exact ⟨⟨_, by rw [HN.out, HB.out]; simp; rfl⟩, rfl⟩
    · have HH := Lib.hid (show kbyt s 0 = 48 by rw [← hk0]; simpa using c)
      clear hk0
      by_cases d : 1 < s.size
      · have hd : decide (1 < ((s.size : Nat) : Int)) = true := decide_eq_true (by omega)
        have HB := Lib.hid (mag_bad (neg := false) (t := s) (.inr (.inr ⟨hpos, HH.out, .inl (by omega)⟩)))
        clear d hsz
        go_enter Try.func213, Try.ntmps213
        go_wp2
        go_ret2
        exact ⟨⟨0, by rw [HN.out, HB.out]; simp⟩, rfl⟩
      · have hd : decide (1 < ((s.size : Nat) : Int)) = false := decide_eq_false (by omega)
        go_enter Try.func213, Try.ntmps213
        go_wp2
        go_loopw [5, 6] (fun n i wr => ∃ (k : Nat) (m : Int), k ≤ s.size ∧ n = .int .i64 m ∧ i = .int .i64 k ∧ (∀ j, j < k → 48 ≤ kbyt s j ∧ kbyt s j ≤ 57) ∧ wr = w) (fun _ i _ => s.size - (intOf i).toNat)
        case atStart => exact ⟨0, 0, by omega, rfl, rfl, fun j h => by omega, rfl⟩
        case round =>
          obtain ⟨k, m, hk, rfl, rfl, hall, rfl⟩ := hrel
          have HA := Lib.hid hall
          clear hall
          by_cases hlt : k < s.size
          · have hlt2 : k < s.size := by omega
            have HK := Lib.hid (kbyt_eq s k hlt2)
            have hcc : ((s[k]'hlt2).toNat : Int) ≤ 255 := by have := (s[k]'hlt2).toNat_lt; omega
            go_wp2
            · have h : (((s[k]'hlt2).toNat : Nat) : Int) < 48 := by assumption
              have HB := Lib.hid (mag_dig (neg := false) (t := s) hlt2 (.inl (by rw [← HK.out]; exact h)))
              go_ret2
              exact ⟨⟨0, by rw [HN.out, HB.out]; simp⟩, rfl⟩
            · have h : 57 < (((s[k]'hlt2).toNat : Nat) : Int) := by assumption
              have HB := Lib.hid (mag_dig (neg := false) (t := s) hlt2 (.inr (by rw [← HK.out]; exact h)))
              go_ret2
              exact ⟨⟨0, by rw [HN.out, HB.out]; simp⟩, rfl⟩
            · have h : ¬ (((s[k]'hlt2).toNat : Nat) : Int) < 48 := by assumption
              have h' : (((s[k]'hlt2).toNat : Nat) : Int) ≤ 57 := by assumption
              have hB := HK.out
              go_roundw
              case rel => exact ⟨k + 1, _, by omega, rfl, by go_num, fun j hj => by
                by_cases e : j < k
                · exact HA.out j e
                · obtain rfl : j = k := by omega
                  omega, by first | trivial | rfl⟩
              case measure => simp [intOf]; omega
          · obtain rfl : k = s.size := by omega
            have HB := Lib.hid (mag_yes (neg := false) (t := s) hpos (by omega) (fun _ => ⟨by omega, rfl⟩) (fun j hj => HA.out j (by omega)))
            go_wp2
            go_ret2
            exact ⟨⟨_, by rw [HN.out, HB.out]; simp; rfl⟩, rfl⟩
  · have hN := numL_neg (s := s) hp (by rw [← hs0]; simpa using hn)
    have hsz : (s.extract 1 s.size).size = s.size - 1 := by rw [ByteArray.size_extract]; omega
    clear hs0 h0
    have HN := Lib.hid hN
    clear hN
    by_cases z : (s.size - 1) = 0
    · have hz : ((((s.size - 1) : Nat) : Int) == 0) = true := beq_iff_eq.2 (by omega)
      have HB := Lib.hid (mag_bad (neg := true) (t := (s.extract 1 s.size)) (.inl (by omega)))
      clear z hsz
      go_enter Try.func213, Try.ntmps213
      go_wp2
      go_ret2
      exact ⟨⟨0, by rw [HN.out, HB.out]; simp⟩, rfl⟩
    have hz : ((((s.size - 1) : Nat) : Int) == 0) = false := beq_eq_false_iff_ne.2 (by omega)
    by_cases b : 17 < (s.size - 1)
    · have hb : decide (17 < (((s.size - 1) : Nat) : Int)) = true := decide_eq_true (by omega)
      have HB := Lib.hid (mag_bad (neg := true) (t := (s.extract 1 s.size)) (.inr (.inl (by omega))))
      clear b hsz
      go_enter Try.func213, Try.ntmps213
      go_wp2
      go_ret2
      exact ⟨⟨0, by rw [HN.out, HB.out]; simp⟩, rfl⟩
    have hb : decide (17 < (((s.size - 1) : Nat) : Int)) = false := decide_eq_false (by omega)
    have hpos : 0 < (s.extract 1 s.size).size := by omega
    have hk0 := kbyt_eq (s.extract 1 s.size) 0 hpos
    cases c : (((((s.extract 1 s.size)[0]'hpos).toNat : Nat) : Int) == 48)
    · have HH := Lib.hid (show kbyt (s.extract 1 s.size) 0 ≠ 48 by rw [← hk0]; simpa using c)
      clear hk0
      go_enter Try.func213, Try.ntmps213
      go_wp2
      go_loopw [5, 6] (fun n i wr => ∃ (k : Nat) (m : Int), k ≤ (s.size - 1) ∧ n = .int .i64 m ∧ i = .int .i64 k ∧ (∀ j, j < k → 48 ≤ kbyt (s.extract 1 s.size) j ∧ kbyt (s.extract 1 s.size) j ≤ 57) ∧ wr = w) (fun _ i _ => (s.size - 1) - (intOf i).toNat)
      case atStart => exact ⟨0, 0, by omega, rfl, rfl, fun j h => by omega, rfl⟩
      case round =>
        obtain ⟨k, m, hk, rfl, rfl, hall, rfl⟩ := hrel
        have HA := Lib.hid hall
        clear hall
        by_cases hlt : k < (s.size - 1)
        · have hlt2 : k < (s.extract 1 s.size).size := by omega
          have HK := Lib.hid (kbyt_eq (s.extract 1 s.size) k hlt2)
          have hcc : (((s.extract 1 s.size)[k]'hlt2).toNat : Int) ≤ 255 := by have := ((s.extract 1 s.size)[k]'hlt2).toNat_lt; omega
          go_wp2
          · have h : ((((s.extract 1 s.size)[k]'hlt2).toNat : Nat) : Int) < 48 := by assumption
            have HB := Lib.hid (mag_dig (neg := true) (t := (s.extract 1 s.size)) hlt2 (.inl (by rw [← HK.out]; exact h)))
            go_ret2
            exact ⟨⟨0, by rw [HN.out, HB.out]; simp⟩, rfl⟩
          · have h : 57 < ((((s.extract 1 s.size)[k]'hlt2).toNat : Nat) : Int) := by assumption
            have HB := Lib.hid (mag_dig (neg := true) (t := (s.extract 1 s.size)) hlt2 (.inr (by rw [← HK.out]; exact h)))
            go_ret2
            exact ⟨⟨0, by rw [HN.out, HB.out]; simp⟩, rfl⟩
          · have h : ¬ ((((s.extract 1 s.size)[k]'hlt2).toNat : Nat) : Int) < 48 := by assumption
            have h' : ((((s.extract 1 s.size)[k]'hlt2).toNat : Nat) : Int) ≤ 57 := by assumption
            have hB := HK.out
            go_roundw
            case rel => exact ⟨k + 1, _, by omega, rfl, by go_num, fun j hj => by
              by_cases e : j < k
              · exact HA.out j e
              · obtain rfl : j = k := by omega
                omega, by first | trivial | rfl⟩
            case measure => simp [intOf]; omega
        · obtain rfl : k = (s.size - 1) := by omega
          have HB := Lib.hid (mag_yes (neg := true) (t := (s.extract 1 s.size)) hpos (by omega) (fun e => absurd e HH.out) (fun j hj => HA.out j (by omega)))
          go_wp2
          go_ret2
          exact ⟨⟨_, by rw [HN.out, HB.out]; simp; rfl⟩, rfl⟩
    · have HH := Lib.hid (show kbyt (s.extract 1 s.size) 0 = 48 by rw [← hk0]; simpa using c)
      clear hk0
      by_cases d : 1 < (s.size - 1)
      · have hd : decide (1 < (((s.size - 1) : Nat) : Int)) = true := decide_eq_true (by omega)
        have HB := Lib.hid (mag_bad (neg := true) (t := (s.extract 1 s.size)) (.inr (.inr ⟨hpos, HH.out, .inl (by omega)⟩)))
        clear d hsz
        go_enter Try.func213, Try.ntmps213
        go_wp2
        go_ret2
        exact ⟨⟨0, by rw [HN.out, HB.out]; simp⟩, rfl⟩
      · have hd : decide (1 < (((s.size - 1) : Nat) : Int)) = false := decide_eq_false (by omega)
        have HB := Lib.hid (mag_bad (neg := true) (t := (s.extract 1 s.size)) (.inr (.inr ⟨hpos, HH.out, .inr rfl⟩)))
        clear d hsz
        go_enter Try.func213, Try.ntmps213
        go_wp2
        go_ret2
        exact ⟨⟨0, by rw [HN.out, HB.out]; simp⟩, rfl⟩
def encP (x : List UInt8) : List Value := [.string ⟨x.toArray⟩]
theorem infoStr : (Try.prog.info? 9).map (fun i => (i.zero, i.size, i.bytes)) = some (some (.string ⟨#[]⟩), 1, 16) := by kernel_rfl
/-- the piece that is over at k -/
theorem piece_at (s : ByteArray) (k : Nat) (hk : k ≤ s.size) : s.extract (k - (cutSt 32 (s.data.toList.take k)).2.length) k = ⟨((cutSt 32 (s.data.toList.take k)).2).toArray⟩ := by
  have ht := cutSt_tail 32 (s.data.toList.take k)
  have hlen : (s.data.toList.take k).length = k := by
    rw [List.length_take]
    have : s.data.toList.length = s.size := by rw [Array.length_toList]; rfl
    omega
  rw [hlen] at ht
  rw [Lib.extract_eq]
  congr 2
  rw [← List.drop_take]
  exact ht.2.symm
theorem kget (s : ByteArray) (k : Nat) (_h : k < s.size) (h2 : k < s.data.toList.length) : s.data.toList[k] = s[k] := by
  simp [Array.getElem_toList]; rfl
set_option maxRecDepth 100000 in
set_option maxHeartbeats 2000000 in
theorem pieces_any (s : ByteArray) (w : World) (hs : s.size ≤ 1048576) :
    Calls Try.prog 212 #[.string s, .int .u8 32] w fun e w' => ∃ v, e = .returned v ∧ w'.ownsRow w.heap.size 9 1 v (pieces 32 s.data.toList).length ((pieces 32 s.data.toList).flatMap encP) ∧ Below w.heap.size w w' := by
  obtain ⟨i0, hi, hz0, hz1, hz2⟩ := info_parts infoStr
  have HI := Lib.hid (⟨hi, hz0, hz1, hz2⟩ : _ ∧ _ ∧ _ ∧ _)
  clear hi hz0 hz1 hz2
  have hll : s.data.toList.length = s.size := by rw [Array.length_toList]; rfl
  go_enter Try.func212, Try.ntmps212
  go_wp2
  go_loopw [5, 6, 7] (fun v f i wr => ∃ (k : Nat) (D : List (List UInt8)), k ≤ s.size + 1 ∧ i = .int .i64 k ∧ (k ≤ s.size → f = .int .i64 ((k - (cutSt 32 (s.data.toList.take k)).2.length : Nat) : Int) ∧ D = (cutSt 32 (s.data.toList.take k)).1) ∧ (k = s.size + 1 → ∃ m : Int, f = .int .i64 m ∧ D = pieces 32 s.data.toList) ∧ D.length ≤ k ∧ wr.ownsRow w.heap.size 9 1 v D.length (D.flatMap encP) ∧ Below w.heap.size w wr) (fun _ _ i _ => s.size + 1 - (intOf i).toNat)
  case atStart =>
    refine ⟨0, [], by omega, rfl, fun _ => ⟨rfl, rfl⟩, fun h => by omega, by simp, ?_, (Below.refl _ _).alloc (Nat.le_refl _) _⟩
    exact own_of_blk (base := w.heap.size) (n := 0) (k := 1) (xs := []) (Blk.new w 9 #[]) (Nat.le_refl _) (Nat.zero_le _) rfl rfl
  case round =>
    obtain ⟨k, D, hk, rfl, hle, hge, hDl, hown, hb⟩ := hrel
    by_cases hks : k ≤ s.size
    · obtain ⟨rfl, hD⟩ := hle hks
      have HP := Lib.hid (piece_at s k hks)
      have hcl := (cutSt_tail 32 (s.data.toList.take k)).1
      rw [List.length_take, hll] at hcl
      have hf1 : k - (cutSt 32 (s.data.toList.take k)).2.length ≤ k := by omega
      generalize hfd : k - (cutSt 32 (s.data.toList.take k)).2.length = fr at *
      have HF := Lib.hid hfd
      have HD := Lib.hid hD
      clear hfd hle hge hD hcl
      by_cases hke : k = s.size
      · have e1 : ((k : Int) == (s.size : Int)) = true := by rw [hke]; simp
        have HDP := Lib.hid (show pieces 32 s.data.toList = D ++ [(cutSt 32 (s.data.toList.take k)).2] by
          rw [HD.out, hke, List.take_of_length_le (by omega)]; rfl)
        have hcut := HDP
        have HKE := Lib.hid hke
        clear hke
        have hown1 : (wr.alloc (.cells #[.string (s.extract fr k)] 9)).ownsRow w.heap.size 9 1 u5 D.length (D.flatMap encP) := own_kept hown ((Below.refl _ _).alloc (Nat.le_refl _) _)
        have hnew := new_cells wr [.string (s.extract fr k)] 9
        have hbs := hb.size
        have b1 : (fr : Int) ≤ k := by omega
        have b2 : (k : Int) ≤ s.size := by omega
        have HC := Lib.hid hcut
        clear hcut
        go_wp2_with (at_builtin; refine wpList_append_own _ rfl (.tmp 26) (.tmp 31) 166 rfl w.heap.size 9 i0 _ 1 16 Try.underlying166 HI.out.1 HI.out.2.1 HI.out.2.2.1 HI.out.2.2.2 rfl (by decide) u5 D.length (D.flatMap encP) rfl hown1 ⟨wr.heap.size, 0, none⟩ 1 1 [.string (s.extract fr k)] rfl rfl hnew (by simp [Value.oneCell']) (by unfold maxLen; omega) (by omega) (by simp; omega) ?_; intro v' w2 hown2 hgrow _)
        have hb2 := (hb.alloc hbs (.cells #[.string (s.extract fr k)] 9)).grown hgrow (by simp; omega) (fun j hj => (hown.lt j hj).1)
        have hown3 : w2.ownsRow w.heap.size 9 1 v' (D ++ [(cutSt 32 (s.data.toList.take k)).2]).length ((D ++ [(cutSt 32 (s.data.toList.take k)).2]).flatMap encP) := by
          rw [HP.out] at hown2
          simpa [List.flatMap_append, encP] using hown2
        go_roundw
        case rel =>
          have hke := HKE.out
          exact ⟨k + 1, D ++ [(cutSt 32 (s.data.toList.take k)).2], by omega, by go_num, fun h => by have := HKE.out; omega, fun _ => ⟨_, rfl, HDP.out.symm⟩, by simp; omega, hown3, hb2⟩
        case measure => simp [intOf]; omega
      · have hlt : k < s.size := by omega
        have e1 : ((k : Int) == (s.size : Int)) = false := beq_eq_false_iff_ne.2 (by omega)
        have hkt := cutSt_take 32 s.data.toList k (by omega)
        rw [kget s k hlt (by omega)] at hkt
        cases hc : ((((s[k]'hlt).toNat : Nat) : Int) == 32)
        · rw [if_neg (by
            intro e
            rw [e] at hc
            simp at hc)] at hkt
          have HK := Lib.hid hkt
          clear hkt
          go_wp2
          go_roundw
          case rel =>
            have hf := HF.out
            exact ⟨k + 1, D, by omega, by go_num, fun _ => ⟨by rw [HK.out]; simp; omega, by rw [HK.out]; exact HD.out⟩, fun h => by omega, by omega, hown, hb⟩
          case measure => simp [intOf]; omega
        · rw [if_pos (by
            have := beq_iff_eq.1 hc
            apply UInt8.toNat_inj.1
            simp; omega)] at hkt
          have hcut := hkt
          clear hkt
          have hown1 : (wr.alloc (.cells #[.string (s.extract fr k)] 9)).ownsRow w.heap.size 9 1 u5 D.length (D.flatMap encP) := own_kept hown ((Below.refl _ _).alloc (Nat.le_refl _) _)
          have hnew := new_cells wr [.string (s.extract fr k)] 9
          have hbs := hb.size
          have b1 : (fr : Int) ≤ k := by omega
          have b2 : (k : Int) ≤ s.size := by omega
          have HC := Lib.hid hcut
          clear hcut
          go_wp2_with (at_builtin; refine wpList_append_own _ rfl (.tmp 26) (.tmp 31) 166 rfl w.heap.size 9 i0 _ 1 16 Try.underlying166 HI.out.1 HI.out.2.1 HI.out.2.2.1 HI.out.2.2.2 rfl (by decide) u5 D.length (D.flatMap encP) rfl hown1 ⟨wr.heap.size, 0, none⟩ 1 1 [.string (s.extract fr k)] rfl rfl hnew (by simp [Value.oneCell']) (by unfold maxLen; omega) (by omega) (by simp; omega) ?_; intro v' w2 hown2 hgrow _)
          have hb2 := (hb.alloc hbs (.cells #[.string (s.extract fr k)] 9)).grown hgrow (by simp; omega) (fun j hj => (hown.lt j hj).1)
          have hown3 : w2.ownsRow w.heap.size 9 1 v' (D ++ [(cutSt 32 (s.data.toList.take k)).2]).length ((D ++ [(cutSt 32 (s.data.toList.take k)).2]).flatMap encP) := by
            rw [HP.out] at hown2
            simpa [List.flatMap_append, encP] using hown2
          go_roundw
          case rel =>
            exact ⟨k + 1, D ++ [(cutSt 32 (s.data.toList.take k)).2], by omega, by go_num, fun _ => ⟨by rw [HC.out]; simp, by rw [HC.out, HD.out]⟩, fun h => by omega, by simp; omega, hown3, hb2⟩
          case measure => simp [intOf]; omega
    · obtain rfl : k = s.size + 1 := by omega
      obtain ⟨m, rfl, rfl⟩ := hge rfl
      clear hle hge
      go_wp2
      go_ret
      exact ⟨_, rfl, hown, hb⟩
end Go.Proofs.Ytpjkcmmmpgncmaa
