/- The drawing kit: l11Open, of, num. -/
import Derived.Test.YtpjkcmmmpgncmaaDraw
namespace Go.Proofs.Ytpjkcmmmpgncmaa
open Go.RowKit
theorem Sl.take {α : Type} {enc : α → List Value} {k : Nat} {w : World} {A : Option Addr} {l : List α} (h : Sl enc k w A l) (n : Nat) : Sl enc k w A (l.take n) := by
  intro hl
  have hl' : 0 < l.length := by rw [List.length_take] at hl; omega
  obtain ⟨b, o, rfl, hb, hc⟩ := h hl'
  refine ⟨b, o, rfl, hb, fun i j x hx hj => hc i j x ?_ hj⟩
  rw [List.getElem?_take] at hx
  split at hx
  · exact hx
  · cases hx
set_option maxRecDepth 100000 in
set_option maxHeartbeats 400000 in
theorem open_any (A : Option Addr) (bs : List UInt8) (c : Nat) (w : World) (hn : bs.length ≤ 1048576) (hc : bs.length ≤ c) (hm : c ≤ maxLen) (hS : Sl encU 1 w A bs) :
    Calls Try.prog 54 #[.slice A bs.length c] w fun e w' => ∃ bs' c' g, e = .returned (.pointer (some ⟨g, 0, none⟩)) ∧ Rd w w' A bs' c' g 0 ∧ Below w.heap.size w w' := by
  unfold maxLen at hm
  by_cases h2 : bs.length ≤ 2000
  · have h2' : decide (2000 < (bs.length : Int)) = false := by simp; omega
    go_enter Try.func54, Try.ntmps54
    go_wp2
    go_ret
    have hb := (Below.refl w.heap.size w).alloc (Nat.le_refl _) (.cells #[.slice A bs.length c, .int .i64 0] 155)
    exact ⟨bs, c, _, rfl, ⟨Blk.new _ _ _, hb, Nat.le_refl _, hS, h2⟩, hb⟩
  · have h2' : decide (2000 < (bs.length : Int)) = true := by simp; omega
    obtain ⟨b, o, rfl, hbl, e0⟩ := hS.at1 (i := 0) (by omega)
    have hl : (bs.take 2000).length = 2000 := by rw [List.length_take]; omega
    go_enter Try.func54, Try.ntmps54
    go_wp2
    go_ret
    have hb := (Below.refl w.heap.size w).alloc (Nat.le_refl _) (.cells #[.slice (some ⟨b, o, none⟩) (bs.take 2000).length c, .int .i64 0] 155)
    rw [hl] at hb
    exact ⟨bs.take 2000, c, _, rfl, ⟨by rw [hl]; exact Blk.new _ _ _, hb, Nat.le_refl _, hS.take 2000, by omega⟩, hb⟩
set_option maxHeartbeats 400000 in
theorem of_any (w0 : World) (A : Option Addr) (bs : List UInt8) (c g p : Nat) (A2 : Option Addr) (l : List ByteArray) (c2 : Nat) (w : World) (hR : Rd w0 w A bs c g p) (hp : p < 1048576) (hl : 1 ≤ l.length ∧ l.length ≤ 1048576)
    (hS : Sl (fun x => [.string x]) 1 w A2 l) (hne : ∀ b o, A2 = some ⟨b, o, none⟩ → b ≠ g) :
    Calls Try.prog 106 #[.pointer (some ⟨g, 0, none⟩), .slice A2 l.length c2] w fun e w' => ∃ x, x ∈ l ∧ e = .returned (.string x) ∧ Rd w0 w' A bs c g (p + 1) ∧ w.grownBy w' (some g) := by
  go_enter Try.func106, Try.ntmps106
  go_wp2_with fail
  refine (pick_any w0 A bs c g p l.length w hR hp hl).mono ?_
  rintro e w1 ⟨k, hk, rfl, hR1, hg1⟩
  obtain ⟨b, o, rfl, hbl, e0⟩ := hS.at1 hk
  have e1 := hg1.cell e0 (by simpa using hne b o rfl)
  have hx := List.getElem_mem hk
  generalize l[k] = x at *
  clear e0 hS hR
  go_wp2
  go_ret
  exact ⟨x, hx, rfl, hR1, hg1⟩
set_option maxHeartbeats 400000 in
theorem num_any (w0 : World) (A : Option Addr) (bs : List UInt8) (c g p : Nat) (A2 : Option Addr) (l : List Int) (c2 : Nat) (w : World) (hR : Rd w0 w A bs c g p) (hp : p < 1048576) (hl : 1 ≤ l.length ∧ l.length ≤ 1048576)
    (hS : Sl (fun x => [.int .i64 x]) 1 w A2 l) (hne : ∀ b o, A2 = some ⟨b, o, none⟩ → b ≠ g) :
    Calls Try.prog 56 #[.pointer (some ⟨g, 0, none⟩), .slice A2 l.length c2] w fun e w' => ∃ x, x ∈ l ∧ e = .returned (.int .i64 x) ∧ Rd w0 w' A bs c g (p + 1) ∧ w.grownBy w' (some g) := by
  go_enter Try.func56, Try.ntmps56
  go_wp2_with fail
  refine (pick_any w0 A bs c g p l.length w hR hp hl).mono ?_
  rintro e w1 ⟨k, hk, rfl, hR1, hg1⟩
  obtain ⟨b, o, rfl, hbl, e0⟩ := hS.at1 hk
  have e1 := hg1.cell e0 (by simpa using hne b o rfl)
  have hx := List.getElem_mem hk
  generalize l[k] = x at *
  clear e0 hS hR
  go_wp2
  go_ret
  exact ⟨x, hx, rfl, hR1, hg1⟩
end Go.Proofs.Ytpjkcmmmpgncmaa
