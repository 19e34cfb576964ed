/- The draws of bytes. -/
import Derived.Test.YtannpeedfakhkaaDoorLtrO
namespace Go.Proofs.YtannpeedfakhkaaDoor
open Go.RowKit
def BytesPost (w : World) (e : Ending) (w' : World) : Prop := ∃ s : ByteArray, e = .returned (.string s) ∧ s.size ≤ 2000 ∧ Below w.heap.size w w'
set_option maxRecDepth 100000 in
set_option maxHeartbeats 1000000 in
theorem drawAll_any (A : Option Addr) (bs : List UInt8) (c : Nat) (w : World) (hn : bs.length ≤ 1048576) (hc : bs.length ≤ c) (hm : c ≤ maxLen) (hS : Sl encU 1 w A bs) :
    Calls Tryd.prog 29 #[.slice A bs.length c] w (BytesPost w) := by
  have main : ∀ (w3 : World) (bs' : List UInt8) (c' g q : Nat) (s : ByteArray), Rd w w3 A bs' c' g q → q < 1000 → s.size ≤ 1000 → Calls Tryd.prog 49 #[.pointer (some ⟨g, 0, none⟩), .string s] w3 (BytesPost w) := by
    intro w3 bs' c' g q s hR hq hs
    refine (torn_any w A bs' c' g q s w3 hR (by omega) (by omega)).mono ?_
    rintro e w4 ⟨t, q', rfl, ht, _, hR4, _⟩
    exact ⟨t, rfl, by omega, hR4.2.1⟩
  have HM := Lib.hid main
  clear main
  go_enter Tryd.func29, Tryd.ntmps29
  go_wp2_with fail
  refine (open_any A bs c w hn hc hm hS).mono ?_
  rintro e w1 ⟨bs', c', g, rfl, hR1, hb1⟩
  clear hS hb1
  go_wp2_with fail
  refine (letters_any w A bs' c' g 0 w1 hR1 (by omega)).mono ?_
  rintro e w2 ⟨l, v, q, rfl, hl9, hlens, hq, hown, hR2, hG2⟩
  obtain ⟨A2, c2, rfl, hl2, hm2, hRl⟩ := Sl.of_own encLet_len hown
  have HR2 := Lib.hid hR2
  have HLN := Lib.hid hlens
  clear hown hR1 hG2 hlens hR2
  go_wp2
  go_loopw [4, 6] (fun a i wr => ∃ (s : ByteArray) (k : Nat), a = .string s ∧ i = .int .i64 k ∧ k ≤ l.length ∧ s.size ≤ 43 * k ∧ Below w2.heap.size w2 wr) (fun _ i _ => l.length - (intOf i).toNat)
  case atStart => exact ⟨_, 0, rfl, rfl, by omega, Nat.le_refl _, Below.refl _ _⟩
  case round =>
    obtain ⟨s, k, rfl, rfl, hk, hsz, hb⟩ := hrel
    by_cases hlt : k < l.length
    · obtain ⟨b, o, rfl, hbl, c0, c1⟩ := Sl.at2 (hRl.below hb) hlt
      have hx := HLN.out _ (List.getElem_mem hlt)
      generalize l[k] = x at *
      have hts := ltText_size x
      go_wp2_with fail
      refine (specText_any x wr (by unfold maxLen; omega) (by unfold maxLen; omega)).mono ?_
      rintro e w3 ⟨rfl, hb3⟩
      have hb4 := bthen hb hb3
      generalize ltText x = t at *
      clear hRl c0 c1 hb hb3
      go_wp2
      go_roundw
      case rel => exact ⟨s ++ t, k + 1, rfl, by go_num, by omega, by rw [ByteArray.size_append]; omega, hb4⟩
      case measure => simp [intOf]; omega
    · obtain rfl : k = l.length := by omega
      have hR3 := HR2.out.below hb
      clear hRl hb
      go_wp2_with fail
      refine (pick_any w A bs' c' g q 40 _ hR3 (by omega) (by omega)).mono ?_
      rintro e w4 ⟨j, hj, rfl, hR4, _⟩
      by_cases j0 : j = 0
      · subst j0
        clear hR3
        go_wp2_with fail
        refine (pick_any w A bs' c' g (q + 1) 3 _ hR4 (by omega) (by omega)).mono ?_
        rintro e w5 ⟨k2, hk2, rfl, hR5, _⟩
        go_wp2_with fail
        refine (many_any ⟨#[83, 48, 48]⟩ (133 + k2) w5 (by decide) (by omega)).mono ?_
        rintro e w6 ⟨t, rfl, ht, rfl⟩
        go_wp2_with fail
        refine (HM.out w6 bs' c' g (q + 1 + 1) t hR5 (by omega) (by omega)).mono ?_
        rintro e w7 ⟨t2, rfl, ht2, hb7⟩
        go_wp2
        go_ret
        exact ⟨t2, rfl, ht2, hb7⟩
      · have j0' : ((j : Int) == 0) = false := by simp; omega
        clear j0 hR3
        go_wp2_with fail
        refine (HM.out w4 bs' c' g (q + 1) s hR4 (by omega) (by omega)).mono ?_
        rintro e w7 ⟨t2, rfl, ht2, hb7⟩
        go_wp2
        go_ret
        exact ⟨t2, rfl, ht2, hb7⟩
set_option maxHeartbeats 400000 in
theorem drawTake_any (A : Option Addr) (bs : List UInt8) (c : Nat) (w : World) (hn : bs.length ≤ 1048576) (hc : bs.length ≤ c) (hm : c ≤ maxLen) (hS : Sl encU 1 w A bs) :
    Calls Tryd.prog 20 #[.slice A bs.length c] w (BytesPost w) := by
  have HM := Lib.hid (drawAll_any A bs c w hn hc hm hS)
  clear hS
  go_enter Tryd.func20, Tryd.ntmps20
  go_wp2_with fail
  refine HM.out.mono ?_
  rintro e w7 ⟨t2, rfl, ht2, hb7⟩
  go_wp2
  go_ret
  exact ⟨t2, rfl, ht2, hb7⟩
end Go.Proofs.YtannpeedfakhkaaDoor
